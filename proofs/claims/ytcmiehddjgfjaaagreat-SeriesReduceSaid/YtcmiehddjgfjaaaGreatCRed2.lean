/- A part of the proof of LawQReduce: contracts and plain laws, put together by a program of this session. -/
import Derived.Test.YtcmiehddjgfjaaaGreatCRed1
import Derived.RangeFuncNested
import Derived.RangeFuncBound
import Derived.RangeFuncCalls
import Derived.RangeFuncLeaves
import Derived.RangeFuncBox
import Derived.Shelf.Abstract
import Derived.Shelf.RegionOpen
import Derived.WalkKit
import Derived.OwnWalkIn
import Derived.TacticsInMore
import Derived.LoopNIn
import Derived.LoopIn
import Derived.Maps.AppendAt
import Derived.Shelf.SlSortCmp.KitK
set_option linter.unusedVariables false
set_option linter.unusedSimpArgs false
set_option linter.unusedSectionVars false
set_option maxHeartbeats 8000000
set_option maxRecDepth 100000
namespace Go.Proofs.YtcmiehddjgfjaaaGreat.A
open Go.RowKit Go.Proofs.YtcmiehddjgfjaaaGreatW.PrintWords Go.Proofs.YtcmiehddjgfjaaaGreatW.PrintLast Go.Proofs.YtcmiehddjgfjaaaGreatW.PrintMore
attribute [local go_sem] max2_int min2_int max_two min_two max_three min_three max_four min_four   -- for this text's walks alone
def q8_Do.j0 : Nat → ByteArray → List (S25) → Bool → Int → Int → Option (Int × Int × Int)
  | 0, _, _, _, _, _ => none
  | k + 1, x0, x1, x7, x390000, x390001 => if (x1.length : Int) = 2 then (if 0 < (x1.length : Int) then (if 1 < (x1.length : Int) then ((q8_two.f k x0 ((rd_T25 x1 0).f0) ((rd_T25 x1 0).f1) ((rd_T25 x1 1).f0) ((rd_T25 x1 1).f1)).bind fun bt396 => (if bt396.2.2 = true then (some (bt396.1, bt396.2.1, 0)) else (some (0, 0, 2)))) else (none)) else (none)) else (if x7 = true then (some (x390000, x390001, 0)) else (some (0, 0, 2)))
def q8_Do.f (k : Nat) (a0 : ByteArray) (l1 : List (S25)) : Option (Int × Int × Int) := (r8_Check.f k l1).bind fun t388 => (if t388 = 0 then (if (l1.length : Int) = 1 then (none) else (q8_Do.j0 k a0 l1 false 0 0)) else (some (0, 0, 80)))
def q8_Do.T7 : Bool × List (List Nat × List Nat) := (true, [([], []), ([], []), ([1], [1]), ([2], [2]), ([], []), ([4], [4]), ([5], [5]), ([0, 3, 6], [0, 3, 6]), ([7], [7]), ([8], [8]), ([8], [8]), ([9, 7, 0, 1, 2, 3, 4, 5, 6, 7, 8, 9], [9]), ([10, 11, 0, 1, 2, 3, 4, 5, 6, 7, 8, 9, 10, 11], [10])])
def q8_Do.B7 : List Nat := [0, 0, 2, 6, 0, 16, 48, 127, 255, 511, 511, 1023, 4095]
theorem q8_Do.tab7 : rtab .any (opsOf Tryz.f17 7) = q8_Do.T7 := by kernel_rfl
theorem q8_Do.bits7 : waitsOk q8_Do.T7.2 q8_Do.B7 = true := by kernel_rfl
theorem q8_Do.calls (k : Nat) (a0 : ByteArray) (A1 : Option Addr) (c1 : Nat) (l1 : List (S25)) (r1 : Int) (r2 : Int) (r3 : Int) (w : World) (hr1 : Kd.C k25 w A1 l1.length l1) (hc1 : l1.length ≤ c1) (h : q8_Do.f k a0 l1 = some (r1, r2, r3)) :
    Calls Tryz.prog 17 #[.string a0, .slice A1 l1.length c1] w fun e w' => e = .returned (.tuple #[.agg #[.int .i64 r1, .int .i64 r2], .int .i64 r3]) ∧ Below w.heap.size w w' := by
  have hu25 := Tryz.underlying25
  have HR1 := Sd.mk hr1
  have HC1 := Sd.mk hc1
  clear hr1 hc1
  have HB := Sd.mk (Below.refl w.heap.size w)
  have H : ((r8_Check.f k l1).bind fun t388 => (if t388 = 0 then (if (l1.length : Int) = 1 then (none) else (q8_Do.j0 k a0 l1 false 0 0)) else (some (0, 0, 80)))) = some (r1, r2, r3) := h
  clear h
  obtain ⟨t388, A3, H⟩ := bnd H
  by_cases c4 : t388 = 0
  · rw [if_pos c4] at H
    have c4b0 := beq_iff_eq.mpr c4
    have c4b1 := bne_eq_false_iff_eq.mpr c4
    clear c4
    have HC5 := Sd.mk H
    clear H
    go_enter Tryz.func17, Tryz.ntmps17
    go_upto_if 15 with (first | ((with_reducible refine gate_dst (N := 4) rfl ?_); refine bxe (N := 4) (cs := #[.int .i64 0, .int .i64 0]) (t := 25) ?_; intro gb387 hg w6 hbox hb; have BK387 := Sd.mk hbox; have GW387 := bge w hg; have GE387 := bge w hg; replace HB := bsq w hb; clear hb hbox hg) | ((with_reducible refine gate_callee (f := 59) rfl ?_); refine goesL_ (some 9) rfl rfl Tryz.func59 (by kernel_rfl) rfl #[.slice A1 l1.length c1] rfl ma ?_; (with_reducible refine (r8_Check.calls k _ _ l1 t388 _ ?side1 ?side2 A3.out).mono ?_); (case side1 => repeat (first | exact (Kd.C_below HR1.out HB.out) | (with_reducible refine Kd.C_alloc ?_ _) | (with_reducible refine Kd.C_drewN ?_ _) | (with_reducible refine Kd.C_drew ?_))); (case side2 => exact HC1.out); rintro e w7 ⟨rfl, hb⟩; refine ⟨_, rfl, ?_⟩; replace BK387 := bkb BK387 hb; replace HB := bsq w hb; (try clear hb)) | ((with_reducible refine gate_dst (N := 6) rfl ?_); refine bxe (N := 6) (cs := #[.int .i64 0, .int .i64 0]) (t := 25) ?_; intro gb389 hg w8 hbox hb; have BK389 := Sd.mk hbox; have GW389 := bge w hg; have GE389 := bge w hg; have NB387_389 := bnl BK387 hg; have NB389_387 := bng BK387 hg; replace BK387 := bkb BK387 hb; replace HB := bsq w hb; clear hb hbox hg; have hnb9 := NB389_387.out; have hnc9 := NB387_389.out; have hcz10_0 := bz0 BK389; have hcz10_1 := bz1 BK389; have hfz10_0 := blk_frozen BK389.out 0; have hfz10_1 := blk_frozen BK389.out 1))
    (try simp only [Act.put, List.setIfInBounds_toArray, List.set_cons_zero, List.set_cons_succ])
    go_cut [7] (fun v7 wc => ∃ (kq : Nat) (x7_4 : Bool) (x390000_4 : Int) (x390001_4 : Int), v7 = .bool x7_4 ∧ Sd (q8_Do.j0 kq a0 l1 x7_4 x390000_4 x390001_4 = some (r1, r2, r3)) ∧ Sd (kq ≤ k) ∧ Sd (wc.heap[gb387]? = some (.cells #[.int .i64 0, .int .i64 0] 25 (0, 0))) ∧ Sd (wc.heap[gb389]? = some (.cells #[.int .i64 x390000_4, .int .i64 x390001_4] 25 (0, 0))) ∧ Sd (Below w.heap.size w wc))
    case first =>
      have H := HC5.out
      clear HC5
      by_cases c11 : (l1.length : Int) = 1
      · rw [if_pos c11] at H; cases H
      · rw [if_neg c11] at H
        have c11b0 : ((l1.length : Int) == 1) = false := beq_eq_false_iff_ne.mpr c11
        have c11b1 : ((l1.length : Int) != 1) = true := bne_iff_ne.mpr c11
        (first | rw [c11b0] | (simp only [i64_w, i32_w]; rw [c11b0]) | skip)
        have H' := Sd.mk H
        clear H
        go_wp2
        go_meet
        case rel => exact ⟨_, (false), (0), (0), ae, H', ⟨by first | omega | exact Nat.le_refl _⟩, ⟨by (repeat refine dw ?_); refine blk_far ?_ NB387_389.out _; (repeat refine dw ?_); refine blk_far ?_ NB387_389.out _; (repeat refine dw ?_); exact BK387.out⟩, ⟨by (repeat refine dw ?_); refine blk_put (cs := #[.int .i64 0, .int .i64 0]) ?_ 1 _ rfl; (repeat refine dw ?_); refine blk_put (cs := #[.int .i64 0, .int .i64 0]) ?_ 0 _ rfl; (repeat refine dw ?_); exact BK389.out⟩, ⟨bbl⟩⟩
    case rest =>
      clear HC5
      obtain ⟨kq, x7_4, x390000_4, x390001_4, rfl, HA, HJ4, BK387, BK389, HB⟩ := hcut
      cases kq with
      | zero => exact absurd HA.out (by simp [q8_Do.j0])
      | succ kj4 =>
        have H := HA.out
        clear HA
        simp only [q8_Do.j0] at H
        by_cases c17 : (l1.length : Int) = 2
        · rw [if_pos c17] at H
          have c17b0 : ((l1.length : Int) == 2) = true := beq_iff_eq.mpr c17
          have c17b1 : ((l1.length : Int) != 2) = false := bne_eq_false_iff_eq.mpr c17
          clear c17
          by_cases c18 : 0 < (l1.length : Int)
          · rw [if_pos c18] at H
            have c18b0 : decide (0 < (l1.length : Int)) = true := decide_eq_true c18
            have c18b1 : decide (0 < l1.length) = true := decide_eq_true (by omega)
            clear c18
            by_cases c19 : 1 < (l1.length : Int)
            · rw [if_pos c19] at H
              have c19b0 : decide (1 < (l1.length : Int)) = true := decide_eq_true c19
              have c19b1 : decide (1 < l1.length) = true := decide_eq_true (by omega)
              clear c19
              obtain ⟨⟨t396, t397, t398⟩, A20, H⟩ := bnd H
              replace H : (if t398 = true then (some (t396, t397, 0)) else (some (0, 0, 2))) = some (r1, r2, r3) := H
              by_cases c21 : t398 = true
              · subst c21
                replace H := iT H
                simp only [Option.some.injEq, Prod.mk.injEq] at H
                obtain ⟨rfl, rfl, rfl⟩ := H
                try go_wp2
                have n0_ := Sd.mk (blk_drew BK387.out)
                have n1_ := Sd.mk (blk_drew BK389.out)
                have n2_ := Sd.mk (bd1 HB.out)
                clear BK387 BK389 HB
                have BK387 := n0_
                have BK389 := n1_
                have HB := n2_
                clear n0_ n1_ n2_
                have p394 : 0 ≤ (0 : Int) := (by omega)
                have q394 : 0 < (l1.length : Int) := ode
                obtain ⟨ad394, e394, hx394_0, hx394_1⟩ := at_T25 HR1.out 0 p394 q394
                have hw394_1 := hx394_1
                (try rw [show ((0 : Int)).toNat = 0 from rfl] at hw394_1)
                (try rw [show 0 * 2 = 0 from rfl] at hw394_1)
                (try rw [Addr.add_zero'] at hw394_1)
                have hw394_0 := hx394_0
                (try rw [show ((0 : Int)).toNat = 0 from rfl] at hw394_0)
                (try rw [show 0 * 2 = 0 from rfl] at hw394_0)
                (try rw [Addr.add_zero'] at hw394_0)
                cases e394
                have qi394 : (0 < l1.length) = True := eq_true (by omega)
                (try rw [show ((0 : Int)).toNat = 0 from rfl] at hx394_0)
                (try rw [show 0 * 2 = 0 from rfl] at hx394_0)
                (try rw [Addr.add_zero'] at hx394_0)
                (try rw [show ((0 : Int)).toNat = 0 from rfl] at hx394_1)
                (try rw [show 0 * 2 = 0 from rfl] at hx394_1)
                (try rw [Addr.add_zero'] at hx394_1)
                replace hx394_0 := hxc HB hx394_0
                replace hx394_1 := hxc HB hx394_1
                replace p394 := eq_true p394
                replace q394 := eq_true q394
                have p395 : 0 ≤ (1 : Int) := (by omega)
                have q395 : 1 < (l1.length : Int) := ode
                obtain ⟨ad395, e395, hx395_0, hx395_1⟩ := at_T25 HR1.out 1 p395 q395
                have hw395_1 := hx395_1
                (try rw [show ((1 : Int)).toNat = 1 from rfl] at hw395_1)
                (try rw [show 1 * 2 = 2 from rfl] at hw395_1)
                (try simp only [Nat.reduceMul, Nat.reduceEqDiff, Go.Addr.add, ↓reduceIte] at hw395_1)
                have hw395_0 := hx395_0
                (try rw [show ((1 : Int)).toNat = 1 from rfl] at hw395_0)
                (try rw [show 1 * 2 = 2 from rfl] at hw395_0)
                (try simp only [Nat.reduceMul, Nat.reduceEqDiff, Go.Addr.add, ↓reduceIte] at hw395_0)
                obtain rfl : ad394 = ad395 := (by injection e395)
                (try simp only [show (1 : Int).toNat = 1 from rfl, Nat.reduceMul, Nat.reduceEqDiff, Go.Addr.add, ↓reduceIte] at hx395_0)
                (try simp only [show (1 : Int).toNat = 1 from rfl, Nat.reduceMul, Nat.reduceEqDiff, Go.Addr.add, ↓reduceIte] at hx395_1)
                have qi395 : (1 < l1.length) = True := eq_true (by omega)
                (try rw [show ((1 : Int)).toNat = 1 from rfl] at hx395_0)
                (try rw [show 1 * 2 = 2 from rfl] at hx395_0)
                (try rw [show ((1 : Int)).toNat = 1 from rfl] at hx395_1)
                (try rw [show 1 * 2 = 2 from rfl] at hx395_1)
                replace hx395_0 := hxc HB hx395_0
                replace hx395_1 := hxc HB hx395_1
                replace p395 := eq_true p395
                replace q395 := eq_true q395
                refine start_ (n := 13) (S := fun w' => w'.cell? ad394 = some (.int .i64 ((rd_T25 l1 0).f0)) ∧ w'.cell? ⟨ad394.block, ad394.off + 1, none⟩ = some (.int .i64 ((rd_T25 l1 0).f1)) ∧ w'.cell? ⟨ad394.block, ad394.off + 2, none⟩ = some (.int .i64 ((rd_T25 l1 1).f0)) ∧ w'.cell? ⟨ad394.block, ad394.off + 2 + 1, none⟩ = some (.int .i64 ((rd_T25 l1 1).f1))) (ds := []) #[false, false, false, false, false, false, false, false, false, false, false, false, false] (by kernel_rfl) rfl rfl ⟨((HB.out.cell (World.block_lt_of_cell? w _ hw394_0)).trans hw394_0), ((HB.out.cell (World.block_lt_of_cell? w _ hw394_1)).trans hw394_1), ((HB.out.cell (World.block_lt_of_cell? w _ hw395_0)).trans hw395_0), ((HB.out.cell (World.block_lt_of_cell? w _ hw395_1)).trans hw395_1)⟩ (fun hHeld => ?_); refine with_tabW q8_Do.tab7 q8_Do.bits7 (fun HT_ HW_ => ?_)
                generalize wc.drew = w22 at BK387 BK389 HB hx394_0 hx394_1 hx395_0 hx395_1 hHeld ⊢
                refine pure_ (i := 0) (N := some 28) (v := ?_) (a' := ?_) #[true, false, false, false, false, false, false, false, false, false, false, false, false] rfl rfl (any_of HT_.out (by kernel_rfl)) (fun _ _ _ h => h) (Or.inl ⟨by rfl, ?_⟩) ?_ ?_
                rotate_left
                · intro w'
                  go_simp
                  with_reducible rfl
                rotate_left
                · simp only [Act.put, List.setIfInBounds_toArray, List.set_cons_zero, List.set_cons_succ, i64_w, i32_w]
                  rfl
                refine pure_ (i := 1) (N := some 29) (v := ?_) (a' := ?_) #[true, true, false, false, false, false, false, false, false, false, false, false, false] rfl rfl (any_of HT_.out (by kernel_rfl)) (fun _ _ _ h => h) (Or.inl ⟨by rfl, ?_⟩) ?_ ?_
                rotate_left
                · intro w'
                  go_simp
                  with_reducible rfl
                rotate_left
                · simp only [Act.put, List.setIfInBounds_toArray, List.set_cons_zero, List.set_cons_succ, i64_w, i32_w]
                  rfl
                refine pure_ (i := 2) (N := some 30) (v := ?_) (a' := ?_) #[true, true, true, false, false, false, false, false, false, false, false, false, false] rfl rfl (any_of HT_.out (by kernel_rfl)) (fun _ _ _ h => h) (Or.inl ⟨by rfl, ?_⟩) ?_ ?_
                rotate_left
                · intro w'
                  go_simp
                  with_reducible rfl
                rotate_left
                · simp only [Act.put, List.setIfInBounds_toArray, List.set_cons_zero, List.set_cons_succ, i64_w, i32_w]
                  rfl
                refine pure_ (i := 4) (N := some 32) (v := ?_) (a' := ?_) #[true, true, true, false, true, false, false, false, false, false, false, false, false] rfl rfl (any_of HT_.out (by kernel_rfl)) (fun _ _ _ h => h) (Or.inl ⟨by rfl, ?_⟩) ?_ ?_
                rotate_left
                · intro w'
                  go_simp
                  with_reducible rfl
                rotate_left
                · simp only [Act.put, List.setIfInBounds_toArray, List.set_cons_zero, List.set_cons_succ, i64_w, i32_w]
                  rfl
                refine pure_ (i := 5) (N := some 33) (v := ?_) (a' := ?_) #[true, true, true, false, true, true, false, false, false, false, false, false, false] rfl rfl (any_of HT_.out (by kernel_rfl)) (fun _ _ _ h => h) (Or.inl ⟨by rfl, ?_⟩) ?_ ?_
                rotate_left
                · intro w'
                  go_simp
                  with_reducible rfl
                rotate_left
                · simp only [Act.put, List.setIfInBounds_toArray, List.set_cons_zero, List.set_cons_succ, i64_w, i32_w]
                  rfl
                refine take_ (i := 3) (N := some 31) (v := ?_) (a' := ?_) #[true, true, true, true, true, true, false, false, false, false, false, false, false] rfl rfl (take_ofW HT_.out HW_.out (by kernel_rfl)) (fun _ _ _ h => h) (Or.inl ⟨by rfl, ?_⟩) hHeld ?_ ?_
                rotate_left
                · rintro w' ⟨s0, s1, s2, s3⟩
                  go_simp
                  with_reducible rfl
                rotate_left
                · simp only [Act.put, List.setIfInBounds_toArray, List.set_cons_zero, List.set_cons_succ, i64_w, i32_w]
                  rfl
                refine take_ (i := 6) (N := some 34) (v := ?_) (a' := ?_) #[true, true, true, true, true, true, true, false, false, false, false, false, false] rfl rfl (take_ofW HT_.out HW_.out (by kernel_rfl)) (fun _ _ _ h => h) (Or.inl ⟨by rfl, ?_⟩) hHeld ?_ ?_
                rotate_left
                · rintro w' ⟨s0, s1, s2, s3⟩
                  go_simp
                  with_reducible rfl
                rotate_left
                · simp only [Act.put, List.setIfInBounds_toArray, List.set_cons_zero, List.set_cons_succ, i64_w, i32_w]
                  rfl
                refine one_ (i := 7) (N := some 35) #[true, true, true, true, true, true, true, true, false, false, false, false, false] rfl rfl (one_of HT_.out (by kernel_rfl)) (by decide) (fun K hK => ?_)
                refine goes_ Tryz.func61 (by kernel_rfl) rfl #[.string a0, .agg #[.int .i64 ((rd_T25 l1 0).f0), .int .i64 ((rd_T25 l1 0).f1)], .agg #[.int .i64 ((rd_T25 l1 1).f0), .int .i64 ((rd_T25 l1 1).f1)]] (by rfl) rfl rfl ma ?_
                with_reducible refine (q8_two.calls kj4 a0 ((rd_T25 l1 0).f0) ((rd_T25 l1 0).f1) ((rd_T25 l1 1).f0) ((rd_T25 l1 1).f1) t396 t397 true _ A20.out).mono ?_
                rintro e w23 ⟨rfl, hb⟩
                refine ⟨_, rfl, ?_⟩
                have n0_ := bkb BK387 hb
                have n1_ := bkb BK389 hb
                have n2_ := bsq w hb
                clear BK387 BK389 HB
                have BK387 := n0_
                have BK389 := n1_
                have HB := n2_
                clear n0_ n1_ n2_
                (try clear hb)
                (try clear hb2)
                (try clear hk)
                (try clear hi)
                refine hK.out _ _ ⟨((HB.out.cell (World.block_lt_of_cell? w _ hw394_0)).trans hw394_0), ((HB.out.cell (World.block_lt_of_cell? w _ hw394_1)).trans hw394_1), ((HB.out.cell (World.block_lt_of_cell? w _ hw395_0)).trans hw395_0), ((HB.out.cell (World.block_lt_of_cell? w _ hw395_1)).trans hw395_1)⟩ (fun hHeld => ?_)
                clear hK K
                refine norm_ (a' := ?_) ?_ ?_
                rotate_left
                · show Act.put _ (some 35) _ = _
                  simp only [Act.put, List.setIfInBounds_toArray, List.set_cons_zero, List.set_cons_succ, i64_w, i32_w]
                  rfl
                refine pure_ (i := 8) (N := some 27) (v := ?_) (a' := ?_) #[true, true, true, true, true, true, true, true, true, false, false, false, false] rfl rfl (any_of HT_.out (by kernel_rfl)) (fun _ _ _ h => h) (Or.inl ⟨by rfl, ?_⟩) ?_ ?_
                rotate_left
                · intro w'
                  go_simp
                  with_reducible rfl
                rotate_left
                · simp only [Act.put, List.setIfInBounds_toArray, List.set_cons_zero, List.set_cons_succ, i64_w, i32_w]
                  rfl
                refine pure_ (i := 9) (N := some 36) (v := ?_) (a' := ?_) #[true, true, true, true, true, true, true, true, true, true, false, false, false] rfl rfl (any_of HT_.out (by kernel_rfl)) (fun _ _ _ h => h) (Or.inl ⟨by rfl, ?_⟩) ?_ ?_
                rotate_left
                · intro w'
                  go_simp
                  with_reducible rfl
                rotate_left
                · simp only [Act.put, List.setIfInBounds_toArray, List.set_cons_zero, List.set_cons_succ, i64_w, i32_w]
                  rfl
                refine pure_ (i := 10) (N := some 37) (v := ?_) (a' := ?_) #[true, true, true, true, true, true, true, true, true, true, true, false, false] rfl rfl (any_of HT_.out (by kernel_rfl)) (fun _ _ _ h => h) (Or.inl ⟨by rfl, ?_⟩) ?_ ?_
                rotate_left
                · intro w'
                  go_simp
                  with_reducible rfl
                rotate_left
                · simp only [Act.put, List.setIfInBounds_toArray, List.set_cons_zero, List.set_cons_succ, i64_w, i32_w]
                  rfl
                refine one_ (i := 11) (N := none) #[true, true, true, true, true, true, true, true, true, true, true, true, false] rfl rfl (one_of HT_.out (by kernel_rfl)) (by decide) (fun K hK => ?_)
                have hs24 : w23.cell? ⟨gb389, 0, none⟩ = some (.int .i64 x390000_4) := (blk_cell BK389.out 0).trans rfl
                have hfs24 := blk_frozen BK389.out 0
                have hns24_0 := NB387_389.out
                have hms24_0 := NB389_387.out
                have hs25 : w23.cell? ⟨gb389, 1, none⟩ = some (.int .i64 x390001_4) := (blk_cell BK389.out 1).trans rfl
                have hfs25 := blk_frozen BK389.out 1
                have hns25_0 := NB387_389.out
                have hms25_0 := NB389_387.out
                refine skip_ (w1 := ?_) (by rfl) rfl ?_ ?_
                rotate_left
                · go_simp
                  rfl
                refine hK.out _ _ ⟨((cell_far (p := ⟨gb389, _, none⟩) (by first | exact Nat.ne_of_lt (Nat.lt_of_lt_of_le (by have := World.block_lt_of_cell? _ _ hw394_0; first | rwa [add_block] at this | exact this) GW389.out) | (rw [add_block]; exact Nat.ne_of_lt (Nat.lt_of_lt_of_le (by have := World.block_lt_of_cell? _ _ hw394_0; first | rwa [add_block] at this | exact this) GW389.out)) | (show (Addr.add _ _).block ≠ _; rw [add_block]; exact Nat.ne_of_lt (Nat.lt_of_lt_of_le (by have := World.block_lt_of_cell? _ _ hw394_0; first | rwa [add_block] at this | exact this) GW389.out)) | (dsimp only; exact Nat.ne_of_lt (Nat.lt_of_lt_of_le (by have := World.block_lt_of_cell? _ _ hw394_0; first | rwa [add_block] at this | exact this) GW389.out))) _).trans (((cell_far (p := ⟨gb389, _, none⟩) (by first | exact Nat.ne_of_lt (Nat.lt_of_lt_of_le (by have := World.block_lt_of_cell? _ _ hw394_0; first | rwa [add_block] at this | exact this) GW389.out) | (rw [add_block]; exact Nat.ne_of_lt (Nat.lt_of_lt_of_le (by have := World.block_lt_of_cell? _ _ hw394_0; first | rwa [add_block] at this | exact this) GW389.out)) | (show (Addr.add _ _).block ≠ _; rw [add_block]; exact Nat.ne_of_lt (Nat.lt_of_lt_of_le (by have := World.block_lt_of_cell? _ _ hw394_0; first | rwa [add_block] at this | exact this) GW389.out)) | (dsimp only; exact Nat.ne_of_lt (Nat.lt_of_lt_of_le (by have := World.block_lt_of_cell? _ _ hw394_0; first | rwa [add_block] at this | exact this) GW389.out))) _).trans (hHeld.1)))), ((cell_far (p := ⟨gb389, _, none⟩) (by first | exact Nat.ne_of_lt (Nat.lt_of_lt_of_le (by have := World.block_lt_of_cell? _ _ hw394_1; first | rwa [add_block] at this | exact this) GW389.out) | (rw [add_block]; exact Nat.ne_of_lt (Nat.lt_of_lt_of_le (by have := World.block_lt_of_cell? _ _ hw394_1; first | rwa [add_block] at this | exact this) GW389.out)) | (show (Addr.add _ _).block ≠ _; rw [add_block]; exact Nat.ne_of_lt (Nat.lt_of_lt_of_le (by have := World.block_lt_of_cell? _ _ hw394_1; first | rwa [add_block] at this | exact this) GW389.out)) | (dsimp only; exact Nat.ne_of_lt (Nat.lt_of_lt_of_le (by have := World.block_lt_of_cell? _ _ hw394_1; first | rwa [add_block] at this | exact this) GW389.out))) _).trans (((cell_far (p := ⟨gb389, _, none⟩) (by first | exact Nat.ne_of_lt (Nat.lt_of_lt_of_le (by have := World.block_lt_of_cell? _ _ hw394_1; first | rwa [add_block] at this | exact this) GW389.out) | (rw [add_block]; exact Nat.ne_of_lt (Nat.lt_of_lt_of_le (by have := World.block_lt_of_cell? _ _ hw394_1; first | rwa [add_block] at this | exact this) GW389.out)) | (show (Addr.add _ _).block ≠ _; rw [add_block]; exact Nat.ne_of_lt (Nat.lt_of_lt_of_le (by have := World.block_lt_of_cell? _ _ hw394_1; first | rwa [add_block] at this | exact this) GW389.out)) | (dsimp only; exact Nat.ne_of_lt (Nat.lt_of_lt_of_le (by have := World.block_lt_of_cell? _ _ hw394_1; first | rwa [add_block] at this | exact this) GW389.out))) _).trans (hHeld.2.1)))), ((cell_far (p := ⟨gb389, _, none⟩) (by first | exact Nat.ne_of_lt (Nat.lt_of_lt_of_le (by have := World.block_lt_of_cell? _ _ hw395_0; first | rwa [add_block] at this | exact this) GW389.out) | (rw [add_block]; exact Nat.ne_of_lt (Nat.lt_of_lt_of_le (by have := World.block_lt_of_cell? _ _ hw395_0; first | rwa [add_block] at this | exact this) GW389.out)) | (show (Addr.add _ _).block ≠ _; rw [add_block]; exact Nat.ne_of_lt (Nat.lt_of_lt_of_le (by have := World.block_lt_of_cell? _ _ hw395_0; first | rwa [add_block] at this | exact this) GW389.out)) | (dsimp only; exact Nat.ne_of_lt (Nat.lt_of_lt_of_le (by have := World.block_lt_of_cell? _ _ hw395_0; first | rwa [add_block] at this | exact this) GW389.out))) _).trans (((cell_far (p := ⟨gb389, _, none⟩) (by first | exact Nat.ne_of_lt (Nat.lt_of_lt_of_le (by have := World.block_lt_of_cell? _ _ hw395_0; first | rwa [add_block] at this | exact this) GW389.out) | (rw [add_block]; exact Nat.ne_of_lt (Nat.lt_of_lt_of_le (by have := World.block_lt_of_cell? _ _ hw395_0; first | rwa [add_block] at this | exact this) GW389.out)) | (show (Addr.add _ _).block ≠ _; rw [add_block]; exact Nat.ne_of_lt (Nat.lt_of_lt_of_le (by have := World.block_lt_of_cell? _ _ hw395_0; first | rwa [add_block] at this | exact this) GW389.out)) | (dsimp only; exact Nat.ne_of_lt (Nat.lt_of_lt_of_le (by have := World.block_lt_of_cell? _ _ hw395_0; first | rwa [add_block] at this | exact this) GW389.out))) _).trans (hHeld.2.2.1)))), ((cell_far (p := ⟨gb389, _, none⟩) (by first | exact Nat.ne_of_lt (Nat.lt_of_lt_of_le (by have := World.block_lt_of_cell? _ _ hw395_1; first | rwa [add_block] at this | exact this) GW389.out) | (rw [add_block]; exact Nat.ne_of_lt (Nat.lt_of_lt_of_le (by have := World.block_lt_of_cell? _ _ hw395_1; first | rwa [add_block] at this | exact this) GW389.out)) | (show (Addr.add _ _).block ≠ _; rw [add_block]; exact Nat.ne_of_lt (Nat.lt_of_lt_of_le (by have := World.block_lt_of_cell? _ _ hw395_1; first | rwa [add_block] at this | exact this) GW389.out)) | (dsimp only; exact Nat.ne_of_lt (Nat.lt_of_lt_of_le (by have := World.block_lt_of_cell? _ _ hw395_1; first | rwa [add_block] at this | exact this) GW389.out))) _).trans (((cell_far (p := ⟨gb389, _, none⟩) (by first | exact Nat.ne_of_lt (Nat.lt_of_lt_of_le (by have := World.block_lt_of_cell? _ _ hw395_1; first | rwa [add_block] at this | exact this) GW389.out) | (rw [add_block]; exact Nat.ne_of_lt (Nat.lt_of_lt_of_le (by have := World.block_lt_of_cell? _ _ hw395_1; first | rwa [add_block] at this | exact this) GW389.out)) | (show (Addr.add _ _).block ≠ _; rw [add_block]; exact Nat.ne_of_lt (Nat.lt_of_lt_of_le (by have := World.block_lt_of_cell? _ _ hw395_1; first | rwa [add_block] at this | exact this) GW389.out)) | (dsimp only; exact Nat.ne_of_lt (Nat.lt_of_lt_of_le (by have := World.block_lt_of_cell? _ _ hw395_1; first | rwa [add_block] at this | exact this) GW389.out))) _).trans (hHeld.2.2.2))))⟩ (fun hHeld => ?_)
                clear hK K
                refine pure_ (i := 12) (N := some 7) (v := ?_) (a' := ?_) #[true, true, true, true, true, true, true, true, true, true, true, true, true] rfl rfl (any_of HT_.out (by kernel_rfl)) (fun _ _ _ h => h) (Or.inl ⟨by rfl, ?_⟩) ?_ ?_
                rotate_left
                · intro w'
                  go_simp
                  with_reducible rfl
                rotate_left
                · simp only [Act.put, List.setIfInBounds_toArray, List.set_cons_zero, List.set_cons_succ, i64_w, i32_w]
                  rfl
                refine done_ (done_of HT_.out (by kernel_rfl)) ?_
                have hnb26 := NB389_387.out
                have hnc26 := NB387_389.out
                obtain ⟨hcz27_0, hcz27_1, hfz27_0, hfz27_1⟩ := bz BK389
                obtain ⟨hcz28_0, hcz28_1, hfz28_0, hfz28_1⟩ := bz BK387
                try go_wp2
                refine bodyPost_ret (results_ct rfl _ _ gb387 25 #[.int .i64 t396, .int .i64 t397] (0, 0) _ rfl (by (repeat refine dw ?_); refine blk_put (cs := #[.int .i64 t396, .int .i64 0]) ?_ 1 _ rfl; (repeat refine dw ?_); refine blk_put (cs := #[.int .i64 0, .int .i64 0]) ?_ 0 _ rfl; (repeat refine dw ?_); refine blk_far ?_ NB387_389.out _; (repeat refine dw ?_); refine blk_far ?_ NB387_389.out _; (repeat refine dw ?_); exact BK387.out) Tryz.underlying25 rfl (by kernel_rfl)) rfl ?_
                exact ⟨fe, bbl⟩
              · replace c21 := Bool.eq_false_iff.mpr c21
                subst c21
                replace H := iF H
                simp only [Option.some.injEq, Prod.mk.injEq] at H
                obtain ⟨rfl, rfl, rfl⟩ := H
                try go_wp2
                have n0_ := Sd.mk (blk_drew BK387.out)
                have n1_ := Sd.mk (blk_drew BK389.out)
                have n2_ := Sd.mk (bd1 HB.out)
                clear BK387 BK389 HB
                have BK387 := n0_
                have BK389 := n1_
                have HB := n2_
                clear n0_ n1_ n2_
                have p394 : 0 ≤ (0 : Int) := (by omega)
                have q394 : 0 < (l1.length : Int) := ode
                obtain ⟨ad394, e394, hx394_0, hx394_1⟩ := at_T25 HR1.out 0 p394 q394
                have hw394_1 := hx394_1
                (try rw [show ((0 : Int)).toNat = 0 from rfl] at hw394_1)
                (try rw [show 0 * 2 = 0 from rfl] at hw394_1)
                (try rw [Addr.add_zero'] at hw394_1)
                have hw394_0 := hx394_0
                (try rw [show ((0 : Int)).toNat = 0 from rfl] at hw394_0)
                (try rw [show 0 * 2 = 0 from rfl] at hw394_0)
                (try rw [Addr.add_zero'] at hw394_0)
                cases e394
                have qi394 : (0 < l1.length) = True := eq_true (by omega)
                (try rw [show ((0 : Int)).toNat = 0 from rfl] at hx394_0)
                (try rw [show 0 * 2 = 0 from rfl] at hx394_0)
                (try rw [Addr.add_zero'] at hx394_0)
                (try rw [show ((0 : Int)).toNat = 0 from rfl] at hx394_1)
                (try rw [show 0 * 2 = 0 from rfl] at hx394_1)
                (try rw [Addr.add_zero'] at hx394_1)
                replace hx394_0 := hxc HB hx394_0
                replace hx394_1 := hxc HB hx394_1
                replace p394 := eq_true p394
                replace q394 := eq_true q394
                have p395 : 0 ≤ (1 : Int) := (by omega)
                have q395 : 1 < (l1.length : Int) := ode
                obtain ⟨ad395, e395, hx395_0, hx395_1⟩ := at_T25 HR1.out 1 p395 q395
                have hw395_1 := hx395_1
                (try rw [show ((1 : Int)).toNat = 1 from rfl] at hw395_1)
                (try rw [show 1 * 2 = 2 from rfl] at hw395_1)
                (try simp only [Nat.reduceMul, Nat.reduceEqDiff, Go.Addr.add, ↓reduceIte] at hw395_1)
                have hw395_0 := hx395_0
                (try rw [show ((1 : Int)).toNat = 1 from rfl] at hw395_0)
                (try rw [show 1 * 2 = 2 from rfl] at hw395_0)
                (try simp only [Nat.reduceMul, Nat.reduceEqDiff, Go.Addr.add, ↓reduceIte] at hw395_0)
                obtain rfl : ad394 = ad395 := (by injection e395)
                (try simp only [show (1 : Int).toNat = 1 from rfl, Nat.reduceMul, Nat.reduceEqDiff, Go.Addr.add, ↓reduceIte] at hx395_0)
                (try simp only [show (1 : Int).toNat = 1 from rfl, Nat.reduceMul, Nat.reduceEqDiff, Go.Addr.add, ↓reduceIte] at hx395_1)
                have qi395 : (1 < l1.length) = True := eq_true (by omega)
                (try rw [show ((1 : Int)).toNat = 1 from rfl] at hx395_0)
                (try rw [show 1 * 2 = 2 from rfl] at hx395_0)
                (try rw [show ((1 : Int)).toNat = 1 from rfl] at hx395_1)
                (try rw [show 1 * 2 = 2 from rfl] at hx395_1)
                replace hx395_0 := hxc HB hx395_0
                replace hx395_1 := hxc HB hx395_1
                replace p395 := eq_true p395
                replace q395 := eq_true q395
                refine start_ (n := 13) (S := fun w' => w'.cell? ad394 = some (.int .i64 ((rd_T25 l1 0).f0)) ∧ w'.cell? ⟨ad394.block, ad394.off + 1, none⟩ = some (.int .i64 ((rd_T25 l1 0).f1)) ∧ w'.cell? ⟨ad394.block, ad394.off + 2, none⟩ = some (.int .i64 ((rd_T25 l1 1).f0)) ∧ w'.cell? ⟨ad394.block, ad394.off + 2 + 1, none⟩ = some (.int .i64 ((rd_T25 l1 1).f1))) (ds := []) #[false, false, false, false, false, false, false, false, false, false, false, false, false] (by kernel_rfl) rfl rfl ⟨((HB.out.cell (World.block_lt_of_cell? w _ hw394_0)).trans hw394_0), ((HB.out.cell (World.block_lt_of_cell? w _ hw394_1)).trans hw394_1), ((HB.out.cell (World.block_lt_of_cell? w _ hw395_0)).trans hw395_0), ((HB.out.cell (World.block_lt_of_cell? w _ hw395_1)).trans hw395_1)⟩ (fun hHeld => ?_); refine with_tabW q8_Do.tab7 q8_Do.bits7 (fun HT_ HW_ => ?_)
                generalize wc.drew = w29 at BK387 BK389 HB hx394_0 hx394_1 hx395_0 hx395_1 hHeld ⊢
                refine pure_ (i := 0) (N := some 28) (v := ?_) (a' := ?_) #[true, false, false, false, false, false, false, false, false, false, false, false, false] rfl rfl (any_of HT_.out (by kernel_rfl)) (fun _ _ _ h => h) (Or.inl ⟨by rfl, ?_⟩) ?_ ?_
                rotate_left
                · intro w'
                  go_simp
                  with_reducible rfl
                rotate_left
                · simp only [Act.put, List.setIfInBounds_toArray, List.set_cons_zero, List.set_cons_succ, i64_w, i32_w]
                  rfl
                refine pure_ (i := 1) (N := some 29) (v := ?_) (a' := ?_) #[true, true, false, false, false, false, false, false, false, false, false, false, false] rfl rfl (any_of HT_.out (by kernel_rfl)) (fun _ _ _ h => h) (Or.inl ⟨by rfl, ?_⟩) ?_ ?_
                rotate_left
                · intro w'
                  go_simp
                  with_reducible rfl
                rotate_left
                · simp only [Act.put, List.setIfInBounds_toArray, List.set_cons_zero, List.set_cons_succ, i64_w, i32_w]
                  rfl
                refine pure_ (i := 2) (N := some 30) (v := ?_) (a' := ?_) #[true, true, true, false, false, false, false, false, false, false, false, false, false] rfl rfl (any_of HT_.out (by kernel_rfl)) (fun _ _ _ h => h) (Or.inl ⟨by rfl, ?_⟩) ?_ ?_
                rotate_left
                · intro w'
                  go_simp
                  with_reducible rfl
                rotate_left
                · simp only [Act.put, List.setIfInBounds_toArray, List.set_cons_zero, List.set_cons_succ, i64_w, i32_w]
                  rfl
                refine pure_ (i := 4) (N := some 32) (v := ?_) (a' := ?_) #[true, true, true, false, true, false, false, false, false, false, false, false, false] rfl rfl (any_of HT_.out (by kernel_rfl)) (fun _ _ _ h => h) (Or.inl ⟨by rfl, ?_⟩) ?_ ?_
                rotate_left
                · intro w'
                  go_simp
                  with_reducible rfl
                rotate_left
                · simp only [Act.put, List.setIfInBounds_toArray, List.set_cons_zero, List.set_cons_succ, i64_w, i32_w]
                  rfl
                refine pure_ (i := 5) (N := some 33) (v := ?_) (a' := ?_) #[true, true, true, false, true, true, false, false, false, false, false, false, false] rfl rfl (any_of HT_.out (by kernel_rfl)) (fun _ _ _ h => h) (Or.inl ⟨by rfl, ?_⟩) ?_ ?_
                rotate_left
                · intro w'
                  go_simp
                  with_reducible rfl
                rotate_left
                · simp only [Act.put, List.setIfInBounds_toArray, List.set_cons_zero, List.set_cons_succ, i64_w, i32_w]
                  rfl
                refine take_ (i := 3) (N := some 31) (v := ?_) (a' := ?_) #[true, true, true, true, true, true, false, false, false, false, false, false, false] rfl rfl (take_ofW HT_.out HW_.out (by kernel_rfl)) (fun _ _ _ h => h) (Or.inl ⟨by rfl, ?_⟩) hHeld ?_ ?_
                rotate_left
                · rintro w' ⟨s0, s1, s2, s3⟩
                  go_simp
                  with_reducible rfl
                rotate_left
                · simp only [Act.put, List.setIfInBounds_toArray, List.set_cons_zero, List.set_cons_succ, i64_w, i32_w]
                  rfl
                refine take_ (i := 6) (N := some 34) (v := ?_) (a' := ?_) #[true, true, true, true, true, true, true, false, false, false, false, false, false] rfl rfl (take_ofW HT_.out HW_.out (by kernel_rfl)) (fun _ _ _ h => h) (Or.inl ⟨by rfl, ?_⟩) hHeld ?_ ?_
                rotate_left
                · rintro w' ⟨s0, s1, s2, s3⟩
                  go_simp
                  with_reducible rfl
                rotate_left
                · simp only [Act.put, List.setIfInBounds_toArray, List.set_cons_zero, List.set_cons_succ, i64_w, i32_w]
                  rfl
                refine one_ (i := 7) (N := some 35) #[true, true, true, true, true, true, true, true, false, false, false, false, false] rfl rfl (one_of HT_.out (by kernel_rfl)) (by decide) (fun K hK => ?_)
                refine goes_ Tryz.func61 (by kernel_rfl) rfl #[.string a0, .agg #[.int .i64 ((rd_T25 l1 0).f0), .int .i64 ((rd_T25 l1 0).f1)], .agg #[.int .i64 ((rd_T25 l1 1).f0), .int .i64 ((rd_T25 l1 1).f1)]] (by rfl) rfl rfl ma ?_
                with_reducible refine (q8_two.calls kj4 a0 ((rd_T25 l1 0).f0) ((rd_T25 l1 0).f1) ((rd_T25 l1 1).f0) ((rd_T25 l1 1).f1) t396 t397 false _ A20.out).mono ?_
                rintro e w30 ⟨rfl, hb⟩
                refine ⟨_, rfl, ?_⟩
                have n0_ := bkb BK387 hb
                have n1_ := bkb BK389 hb
                have n2_ := bsq w hb
                clear BK387 BK389 HB
                have BK387 := n0_
                have BK389 := n1_
                have HB := n2_
                clear n0_ n1_ n2_
                (try clear hb)
                (try clear hb2)
                (try clear hk)
                (try clear hi)
                refine hK.out _ _ ⟨((HB.out.cell (World.block_lt_of_cell? w _ hw394_0)).trans hw394_0), ((HB.out.cell (World.block_lt_of_cell? w _ hw394_1)).trans hw394_1), ((HB.out.cell (World.block_lt_of_cell? w _ hw395_0)).trans hw395_0), ((HB.out.cell (World.block_lt_of_cell? w _ hw395_1)).trans hw395_1)⟩ (fun hHeld => ?_)
                clear hK K
                refine norm_ (a' := ?_) ?_ ?_
                rotate_left
                · show Act.put _ (some 35) _ = _
                  simp only [Act.put, List.setIfInBounds_toArray, List.set_cons_zero, List.set_cons_succ, i64_w, i32_w]
                  rfl
                refine pure_ (i := 8) (N := some 27) (v := ?_) (a' := ?_) #[true, true, true, true, true, true, true, true, true, false, false, false, false] rfl rfl (any_of HT_.out (by kernel_rfl)) (fun _ _ _ h => h) (Or.inl ⟨by rfl, ?_⟩) ?_ ?_
                rotate_left
                · intro w'
                  go_simp
                  with_reducible rfl
                rotate_left
                · simp only [Act.put, List.setIfInBounds_toArray, List.set_cons_zero, List.set_cons_succ, i64_w, i32_w]
                  rfl
                refine pure_ (i := 9) (N := some 36) (v := ?_) (a' := ?_) #[true, true, true, true, true, true, true, true, true, true, false, false, false] rfl rfl (any_of HT_.out (by kernel_rfl)) (fun _ _ _ h => h) (Or.inl ⟨by rfl, ?_⟩) ?_ ?_
                rotate_left
                · intro w'
                  go_simp
                  with_reducible rfl
                rotate_left
                · simp only [Act.put, List.setIfInBounds_toArray, List.set_cons_zero, List.set_cons_succ, i64_w, i32_w]
                  rfl
                refine pure_ (i := 10) (N := some 37) (v := ?_) (a' := ?_) #[true, true, true, true, true, true, true, true, true, true, true, false, false] rfl rfl (any_of HT_.out (by kernel_rfl)) (fun _ _ _ h => h) (Or.inl ⟨by rfl, ?_⟩) ?_ ?_
                rotate_left
                · intro w'
                  go_simp
                  with_reducible rfl
                rotate_left
                · simp only [Act.put, List.setIfInBounds_toArray, List.set_cons_zero, List.set_cons_succ, i64_w, i32_w]
                  rfl
                refine one_ (i := 11) (N := none) #[true, true, true, true, true, true, true, true, true, true, true, true, false] rfl rfl (one_of HT_.out (by kernel_rfl)) (by decide) (fun K hK => ?_)
                have hs31 : w30.cell? ⟨gb389, 0, none⟩ = some (.int .i64 x390000_4) := (blk_cell BK389.out 0).trans rfl
                have hfs31 := blk_frozen BK389.out 0
                have hns31_0 := NB387_389.out
                have hms31_0 := NB389_387.out
                have hs32 : w30.cell? ⟨gb389, 1, none⟩ = some (.int .i64 x390001_4) := (blk_cell BK389.out 1).trans rfl
                have hfs32 := blk_frozen BK389.out 1
                have hns32_0 := NB387_389.out
                have hms32_0 := NB389_387.out
                refine skip_ (w1 := ?_) (by rfl) rfl ?_ ?_
                rotate_left
                · go_simp
                  rfl
                refine hK.out _ _ ⟨((cell_far (p := ⟨gb389, _, none⟩) (by first | exact Nat.ne_of_lt (Nat.lt_of_lt_of_le (by have := World.block_lt_of_cell? _ _ hw394_0; first | rwa [add_block] at this | exact this) GW389.out) | (rw [add_block]; exact Nat.ne_of_lt (Nat.lt_of_lt_of_le (by have := World.block_lt_of_cell? _ _ hw394_0; first | rwa [add_block] at this | exact this) GW389.out)) | (show (Addr.add _ _).block ≠ _; rw [add_block]; exact Nat.ne_of_lt (Nat.lt_of_lt_of_le (by have := World.block_lt_of_cell? _ _ hw394_0; first | rwa [add_block] at this | exact this) GW389.out)) | (dsimp only; exact Nat.ne_of_lt (Nat.lt_of_lt_of_le (by have := World.block_lt_of_cell? _ _ hw394_0; first | rwa [add_block] at this | exact this) GW389.out))) _).trans (((cell_far (p := ⟨gb389, _, none⟩) (by first | exact Nat.ne_of_lt (Nat.lt_of_lt_of_le (by have := World.block_lt_of_cell? _ _ hw394_0; first | rwa [add_block] at this | exact this) GW389.out) | (rw [add_block]; exact Nat.ne_of_lt (Nat.lt_of_lt_of_le (by have := World.block_lt_of_cell? _ _ hw394_0; first | rwa [add_block] at this | exact this) GW389.out)) | (show (Addr.add _ _).block ≠ _; rw [add_block]; exact Nat.ne_of_lt (Nat.lt_of_lt_of_le (by have := World.block_lt_of_cell? _ _ hw394_0; first | rwa [add_block] at this | exact this) GW389.out)) | (dsimp only; exact Nat.ne_of_lt (Nat.lt_of_lt_of_le (by have := World.block_lt_of_cell? _ _ hw394_0; first | rwa [add_block] at this | exact this) GW389.out))) _).trans (hHeld.1)))), ((cell_far (p := ⟨gb389, _, none⟩) (by first | exact Nat.ne_of_lt (Nat.lt_of_lt_of_le (by have := World.block_lt_of_cell? _ _ hw394_1; first | rwa [add_block] at this | exact this) GW389.out) | (rw [add_block]; exact Nat.ne_of_lt (Nat.lt_of_lt_of_le (by have := World.block_lt_of_cell? _ _ hw394_1; first | rwa [add_block] at this | exact this) GW389.out)) | (show (Addr.add _ _).block ≠ _; rw [add_block]; exact Nat.ne_of_lt (Nat.lt_of_lt_of_le (by have := World.block_lt_of_cell? _ _ hw394_1; first | rwa [add_block] at this | exact this) GW389.out)) | (dsimp only; exact Nat.ne_of_lt (Nat.lt_of_lt_of_le (by have := World.block_lt_of_cell? _ _ hw394_1; first | rwa [add_block] at this | exact this) GW389.out))) _).trans (((cell_far (p := ⟨gb389, _, none⟩) (by first | exact Nat.ne_of_lt (Nat.lt_of_lt_of_le (by have := World.block_lt_of_cell? _ _ hw394_1; first | rwa [add_block] at this | exact this) GW389.out) | (rw [add_block]; exact Nat.ne_of_lt (Nat.lt_of_lt_of_le (by have := World.block_lt_of_cell? _ _ hw394_1; first | rwa [add_block] at this | exact this) GW389.out)) | (show (Addr.add _ _).block ≠ _; rw [add_block]; exact Nat.ne_of_lt (Nat.lt_of_lt_of_le (by have := World.block_lt_of_cell? _ _ hw394_1; first | rwa [add_block] at this | exact this) GW389.out)) | (dsimp only; exact Nat.ne_of_lt (Nat.lt_of_lt_of_le (by have := World.block_lt_of_cell? _ _ hw394_1; first | rwa [add_block] at this | exact this) GW389.out))) _).trans (hHeld.2.1)))), ((cell_far (p := ⟨gb389, _, none⟩) (by first | exact Nat.ne_of_lt (Nat.lt_of_lt_of_le (by have := World.block_lt_of_cell? _ _ hw395_0; first | rwa [add_block] at this | exact this) GW389.out) | (rw [add_block]; exact Nat.ne_of_lt (Nat.lt_of_lt_of_le (by have := World.block_lt_of_cell? _ _ hw395_0; first | rwa [add_block] at this | exact this) GW389.out)) | (show (Addr.add _ _).block ≠ _; rw [add_block]; exact Nat.ne_of_lt (Nat.lt_of_lt_of_le (by have := World.block_lt_of_cell? _ _ hw395_0; first | rwa [add_block] at this | exact this) GW389.out)) | (dsimp only; exact Nat.ne_of_lt (Nat.lt_of_lt_of_le (by have := World.block_lt_of_cell? _ _ hw395_0; first | rwa [add_block] at this | exact this) GW389.out))) _).trans (((cell_far (p := ⟨gb389, _, none⟩) (by first | exact Nat.ne_of_lt (Nat.lt_of_lt_of_le (by have := World.block_lt_of_cell? _ _ hw395_0; first | rwa [add_block] at this | exact this) GW389.out) | (rw [add_block]; exact Nat.ne_of_lt (Nat.lt_of_lt_of_le (by have := World.block_lt_of_cell? _ _ hw395_0; first | rwa [add_block] at this | exact this) GW389.out)) | (show (Addr.add _ _).block ≠ _; rw [add_block]; exact Nat.ne_of_lt (Nat.lt_of_lt_of_le (by have := World.block_lt_of_cell? _ _ hw395_0; first | rwa [add_block] at this | exact this) GW389.out)) | (dsimp only; exact Nat.ne_of_lt (Nat.lt_of_lt_of_le (by have := World.block_lt_of_cell? _ _ hw395_0; first | rwa [add_block] at this | exact this) GW389.out))) _).trans (hHeld.2.2.1)))), ((cell_far (p := ⟨gb389, _, none⟩) (by first | exact Nat.ne_of_lt (Nat.lt_of_lt_of_le (by have := World.block_lt_of_cell? _ _ hw395_1; first | rwa [add_block] at this | exact this) GW389.out) | (rw [add_block]; exact Nat.ne_of_lt (Nat.lt_of_lt_of_le (by have := World.block_lt_of_cell? _ _ hw395_1; first | rwa [add_block] at this | exact this) GW389.out)) | (show (Addr.add _ _).block ≠ _; rw [add_block]; exact Nat.ne_of_lt (Nat.lt_of_lt_of_le (by have := World.block_lt_of_cell? _ _ hw395_1; first | rwa [add_block] at this | exact this) GW389.out)) | (dsimp only; exact Nat.ne_of_lt (Nat.lt_of_lt_of_le (by have := World.block_lt_of_cell? _ _ hw395_1; first | rwa [add_block] at this | exact this) GW389.out))) _).trans (((cell_far (p := ⟨gb389, _, none⟩) (by first | exact Nat.ne_of_lt (Nat.lt_of_lt_of_le (by have := World.block_lt_of_cell? _ _ hw395_1; first | rwa [add_block] at this | exact this) GW389.out) | (rw [add_block]; exact Nat.ne_of_lt (Nat.lt_of_lt_of_le (by have := World.block_lt_of_cell? _ _ hw395_1; first | rwa [add_block] at this | exact this) GW389.out)) | (show (Addr.add _ _).block ≠ _; rw [add_block]; exact Nat.ne_of_lt (Nat.lt_of_lt_of_le (by have := World.block_lt_of_cell? _ _ hw395_1; first | rwa [add_block] at this | exact this) GW389.out)) | (dsimp only; exact Nat.ne_of_lt (Nat.lt_of_lt_of_le (by have := World.block_lt_of_cell? _ _ hw395_1; first | rwa [add_block] at this | exact this) GW389.out))) _).trans (hHeld.2.2.2))))⟩ (fun hHeld => ?_)
                clear hK K
                refine pure_ (i := 12) (N := some 7) (v := ?_) (a' := ?_) #[true, true, true, true, true, true, true, true, true, true, true, true, true] rfl rfl (any_of HT_.out (by kernel_rfl)) (fun _ _ _ h => h) (Or.inl ⟨by rfl, ?_⟩) ?_ ?_
                rotate_left
                · intro w'
                  go_simp
                  with_reducible rfl
                rotate_left
                · simp only [Act.put, List.setIfInBounds_toArray, List.set_cons_zero, List.set_cons_succ, i64_w, i32_w]
                  rfl
                refine done_ (done_of HT_.out (by kernel_rfl)) ?_
                have hnb33 := NB387_389.out
                have hnc33 := NB389_387.out
                obtain ⟨hcz34_0, hcz34_1, hfz34_0, hfz34_1⟩ := bz BK387
                try go_wp2
                refine bodyPost_ret (results_ct rfl _ _ gb387 25 #[.int .i64 0, .int .i64 0] (0, 0) _ rfl (by (repeat refine dw ?_); refine blk_put (cs := #[.int .i64 0, .int .i64 0]) ?_ 1 _ rfl; (repeat refine dw ?_); refine blk_put (cs := #[.int .i64 0, .int .i64 0]) ?_ 0 _ rfl; (repeat refine dw ?_); refine blk_far ?_ NB387_389.out _; (repeat refine dw ?_); refine blk_far ?_ NB387_389.out _; (repeat refine dw ?_); exact BK387.out) Tryz.underlying25 rfl (by kernel_rfl)) rfl ?_
                exact ⟨fe, bbl⟩
            · rw [if_neg c19] at H
              exact absurd H (by simp)
          · rw [if_neg c18] at H
            exact absurd H (by simp)
        · rw [if_neg c17] at H
          have c17b0 : ((l1.length : Int) == 2) = false := beq_eq_false_iff_ne.mpr c17
          have c17b1 : ((l1.length : Int) != 2) = true := bne_iff_ne.mpr c17
          by_cases c35 : x7_4 = true
          · subst c35
            replace H := iT H
            simp only [Option.some.injEq, Prod.mk.injEq] at H
            obtain ⟨rfl, rfl, rfl⟩ := H
            have hnb36 := NB389_387.out
            have hnc36 := NB387_389.out
            obtain ⟨hcz37_0, hcz37_1, hfz37_0, hfz37_1⟩ := bz BK389
            obtain ⟨hcz38_0, hcz38_1, hfz38_0, hfz38_1⟩ := bz BK387
            go_wp2
            refine bodyPost_ret (results_ct rfl _ _ gb387 25 #[.int .i64 x390000_4, .int .i64 x390001_4] (0, 0) _ rfl (by (repeat refine dw ?_); refine blk_put (cs := #[.int .i64 x390000_4, .int .i64 0]) ?_ 1 _ rfl; (repeat refine dw ?_); refine blk_put (cs := #[.int .i64 0, .int .i64 0]) ?_ 0 _ rfl; (repeat refine dw ?_); exact BK387.out) Tryz.underlying25 rfl (by kernel_rfl)) rfl ?_
            exact ⟨fe, bbl⟩
          · replace c35 := Bool.eq_false_iff.mpr c35
            subst c35
            replace H := iF H
            simp only [Option.some.injEq, Prod.mk.injEq] at H
            obtain ⟨rfl, rfl, rfl⟩ := H
            have hnb39 := NB387_389.out
            have hnc39 := NB389_387.out
            obtain ⟨hcz40_0, hcz40_1, hfz40_0, hfz40_1⟩ := bz BK387
            go_wp2
            refine bodyPost_ret (results_ct rfl _ _ gb387 25 #[.int .i64 0, .int .i64 0] (0, 0) _ rfl (by (repeat refine dw ?_); refine blk_put (cs := #[.int .i64 0, .int .i64 0]) ?_ 1 _ rfl; (repeat refine dw ?_); refine blk_put (cs := #[.int .i64 0, .int .i64 0]) ?_ 0 _ rfl; (repeat refine dw ?_); exact BK387.out) Tryz.underlying25 rfl (by kernel_rfl)) rfl ?_
            exact ⟨fe, bbl⟩
  · rw [if_neg c4] at H
    have c4b0 := beq_eq_false_iff_ne.mpr c4
    have c4b1 := bne_iff_ne.mpr c4
    simp only [Option.some.injEq, Prod.mk.injEq] at H
    obtain ⟨rfl, rfl, rfl⟩ := H
    go_enter Tryz.func17, Tryz.ntmps17
    go_wp2_with (first | ((with_reducible refine gate_dst (N := 4) rfl ?_); refine bxe (N := 4) (cs := #[.int .i64 0, .int .i64 0]) (t := 25) ?_; intro gb387 hg w41 hbox hb; have BK387 := Sd.mk hbox; have GW387 := bge w hg; have GE387 := bge w hg; replace HB := bsq w hb; clear hb hbox hg) | ((with_reducible refine gate_callee (f := 59) rfl ?_); refine goesL_ (some 9) rfl rfl Tryz.func59 (by kernel_rfl) rfl #[.slice A1 l1.length c1] rfl ma ?_; (with_reducible refine (r8_Check.calls k _ _ l1 t388 _ ?side1 ?side2 A3.out).mono ?_); (case side1 => repeat (first | exact (Kd.C_below HR1.out HB.out) | (with_reducible refine Kd.C_alloc ?_ _) | (with_reducible refine Kd.C_drewN ?_ _) | (with_reducible refine Kd.C_drew ?_))); (case side2 => exact HC1.out); rintro e w42 ⟨rfl, hb⟩; refine ⟨_, rfl, ?_⟩; replace BK387 := bkb BK387 hb; replace HB := bsq w hb; (try clear hb); have hcz43_0 := bz0 BK387; have hcz43_1 := bz1 BK387; have hfz43_0 := blk_frozen BK387.out 0; have hfz43_1 := blk_frozen BK387.out 1))
    refine bodyPost_ret (results_ct rfl _ _ gb387 25 #[.int .i64 0, .int .i64 0] (0, 0) _ rfl (by (repeat refine dw ?_); refine blk_put (cs := #[.int .i64 0, .int .i64 0]) ?_ 1 _ rfl; (repeat refine dw ?_); refine blk_put (cs := #[.int .i64 0, .int .i64 0]) ?_ 0 _ rfl; (repeat refine dw ?_); exact BK387.out) Tryz.underlying25 rfl (by kernel_rfl)) rfl ?_
    exact ⟨fe, bbl⟩
def q10_do.f (k : Nat) (a0 : ByteArray) (a1_0 : Int) (a1_1 : Int) (a2_0 : Int) (a2_1 : Int) : Option (Int × Int) := (q8_Do.f k a0 (([(⟨a1_0, a1_1⟩ : S25), (⟨a2_0, a2_1⟩ : S25)] : List (S25)))).bind fun bt416 => (some (bt416.1, bt416.2.1))
theorem q10_do.calls (k : Nat) (a0 : ByteArray) (a1_0 : Int) (a1_1 : Int) (a2_0 : Int) (a2_1 : Int) (r1 : Int) (r2 : Int) (w : World) (h : q10_do.f k a0 a1_0 a1_1 a2_0 a2_1 = some (r1, r2)) :
    Calls Tryz.prog 49 #[.string a0, .agg #[.int .i64 a1_0, .int .i64 a1_1], .agg #[.int .i64 a2_0, .int .i64 a2_1]] w fun e w' => e = .returned (.agg #[.int .i64 r1, .int .i64 r2]) ∧ Below w.heap.size w w' := by
  have hu25 := Tryz.underlying25
  have HB := Sd.mk (Below.refl w.heap.size w)
  have H : ((q8_Do.f k a0 (([(⟨a1_0, a1_1⟩ : S25), (⟨a2_0, a2_1⟩ : S25)] : List (S25)))).bind fun bt416 => (some (bt416.1, bt416.2.1))) = some (r1, r2) := h
  clear h
  obtain ⟨y413, hy413⟩ : ∃ y_ : List (S25), y_ = (([(⟨a1_0, a1_1⟩ : S25), (⟨a2_0, a2_1⟩ : S25)] : List (S25))) := ⟨_, rfl⟩
  replace H : ((q8_Do.f k a0 y413).bind fun bt416 => (some (bt416.1, bt416.2.1))) = some (r1, r2) := by first | (rw [hy413]; with_reducible exact H) | (have H2_ := (Option.bind_some _ _).symm.trans H; rw [hy413]; with_reducible exact H2_) | (have H2_ := (Option.bind_some _ _).symm.trans H; with_reducible exact H2_) | with_reducible exact H | (rw [hy413]; exact H) | exact H
  have Ny413 := Sd.mk hy413
  clear hy413
  obtain ⟨⟨t416, t417, t418⟩, A4, H⟩ := bnd H
  replace H : (some (t416, t417)) = some (r1, r2) := H
  simp only [Option.some.injEq, Prod.mk.injEq] at H
  obtain ⟨rfl, rfl⟩ := H
  go_enter Tryz.func49, Tryz.ntmps49
  go_wp2_with (first | ((with_reducible refine gate_dst (N := 4) rfl ?_); refine bxe (N := 4) (cs := #[.int .i64 a1_0, .int .i64 a1_1]) (t := 25) ?_; intro gb410 hg w5 hbox hb; have BK410 := Sd.mk hbox; have GW410 := bge w hg; have GE410 := bge w hg; replace HB := bsq w hb; clear hb hbox hg) | ((with_reducible refine gate_dst (N := 5) rfl ?_); refine bxe (N := 5) (cs := #[.int .i64 a2_0, .int .i64 a2_1]) (t := 25) ?_; intro gb411 hg w6 hbox hb; have BK411 := Sd.mk hbox; have GW411 := bge w hg; have GE411 := bge w hg; have NB410_411 := bnl BK410 hg; have NB411_410 := bng BK410 hg; replace BK410 := bkb BK410 hb; replace HB := bsq w hb; clear hb hbox hg) | ((with_reducible refine gate_dst (N := 6) rfl ?_); refine bxe (N := 6) (cs := #[.int .i64 0, .int .i64 0]) (t := 25) ?_; intro gb412 hg w7 hbox hb; have BK412 := Sd.mk hbox; have GW412 := bge w hg; have GE412 := bge w hg; have NB410_412 := bnl BK410 hg; have NB412_410 := bng BK410 hg; have NB411_412 := bnl BK411 hg; have NB412_411 := bng BK411 hg; replace BK410 := bkb BK410 hb; replace BK411 := bkb BK411 hb; replace HB := bsq w hb; clear hb hbox hg; have hnb8 := NB410_411.out; have hnc8 := NB411_410.out; have hnb9 := NB410_412.out; have hnc9 := NB412_410.out; have hcz10_0 := bz0 BK410; have hcz10_1 := bz1 BK410; have hfz10_0 := blk_frozen BK410.out 0; have hfz10_1 := blk_frozen BK410.out 1; have hnb11 := NB411_412.out; have hnc11 := NB412_411.out; have hcz12_0 := bz0 BK411; have hcz12_1 := bz1 BK411; have hfz12_0 := blk_frozen BK411.out 0; have hfz12_1 := blk_frozen BK411.out 1) | ((with_reducible refine gate_dst (N := 13) rfl ?_); refine Kd.R_lit k25 _ 25 ?hg (N := 13) ?hd (xs := ([(⟨a1_0, a1_1⟩ : S25), (⟨a2_0, a2_1⟩ : S25)] : List (S25))) (inner := [.int .i64 a1_0, .int .i64 a1_1, .int .i64 a2_0, .int .i64 a2_1]) (ok := fun _ => True) (okp := fun _ => True) ?hr ?hp (fun _ hk => hk) trivial (Below.refl _ _) (Nat.le_refl _) (by simp) ?_; (case hd => rfl); (case hg => rfl); (case hr => first | (go_simp; done) | (go_simp; rfl)); (case hp => exact (Reps.c2 (show Kd.M k25 _ _ _ (⟨a1_0, a1_1⟩ : S25) [.int .i64 a1_0, .int .i64 a1_1] from (k25_mkM _ _ _ (⟨a1_0, a1_1⟩ : S25) )) (Reps.c2 (show Kd.M k25 _ _ _ (⟨a2_0, a2_1⟩ : S25) [.int .i64 a2_0, .int .i64 a2_1] from (k25_mkM _ _ _ (⟨a2_0, a2_1⟩ : S25) )) (Reps.none _ _)))); intro v414 w13 ho14 hb hg_ hnew_; clear hg_ hnew_; (first | rw [← Ny413.out] at ho14 | (simp only [Int.reduceToNat] at ho14; rw [← Ny413.out] at ho14)); have n0_ := Sd.mk (Kd.R_lower (Kd.R_newB (Kd.R_newB (Kd.R_newB ho14 (g := gb410) (o := .cells #[.int .i64 a1_0, .int .i64 a1_1] 25 (0, 0)) (by exact blkF BK410.out)) (g := gb411) (o := .cells #[.int .i64 a2_0, .int .i64 a2_1] 25 (0, 0)) (by exact blkF BK411.out)) (g := gb412) (o := .cells #[.int .i64 0, .int .i64 0] 25 (0, 0)) (by exact blkF BK412.out)) (below_size bbl)); have n1_ := bkb BK410 hb; have n2_ := bkb BK411 hb; have n3_ := bkb BK412 hb; have n4_ := bsq w hb; clear BK410; clear BK411; clear BK412; clear HB; have HO415 := n0_; have BK410 := n1_; have BK411 := n2_; have BK412 := n3_; have HB := n4_; clear n0_ n1_ n2_ n3_ n4_; clear hb ho14; obtain ⟨Ao15, co15, eo15⟩ := Kd.R_slice HO415.out; subst eo15) | ((with_reducible refine gate_callee (f := 17) rfl ?_); refine goesL_ (some 14) rfl rfl Tryz.func17 (by kernel_rfl) rfl #[.string a0, .slice Ao15 y413.length co15] rfl ma ?_; (with_reducible refine (q8_Do.calls k a0 _ _ y413 t416 t417 t418 _ ?side1 ?side2 A4.out).mono ?_); (case side1 => repeat (first | exact (Kd.R_reads' HO415.out).2.2 | (with_reducible refine Kd.C_alloc ?_ _) | (with_reducible refine Kd.C_drewN ?_ _) | (with_reducible refine Kd.C_drew ?_))); (case side2 => exact (Kd.R_reads' HO415.out).2.1); rintro e w16 ⟨rfl, hb⟩; refine ⟨_, rfl, ?_⟩; replace HO415 := brb HO415 hb; replace BK410 := bkb BK410 hb; replace BK411 := bkb BK411 hb; replace BK412 := bkb BK412 hb; replace HB := bsq w hb; (try clear hb)) | ((with_reducible refine gate_dst (N := 7) rfl ?_); refine bxe (N := 7) (cs := #[.int .i64 0, .int .i64 0]) (t := 25) ?_; intro gb419 hg w17 hbox hb; have n0_ := Sd.mk (Kd.R_below (Kd.R_elderB (by (repeat refine dR ?_); exact HO415.out) gb419 (Nat.le_of_eq hg.symm)) hb); have n1_ := bkb BK410 hb; have n2_ := bkb BK411 hb; have n3_ := bkb BK412 hb; have n4_ := bsq w hb; have n5_ := Sd.mk (hbox); have n6_ := bge w hg; have n7_ := bge w hg; have n8_ := bnl BK410 hg; have n9_ := bng BK410 hg; have n10_ := bnl BK411 hg; have n11_ := bng BK411 hg; have n12_ := bnl BK412 hg; have n13_ := bng BK412 hg; clear HO415; clear BK410; clear BK411; clear BK412; clear HB; have HO415 := n0_; have BK410 := n1_; have BK411 := n2_; have BK412 := n3_; have HB := n4_; have BK419 := n5_; have GW419 := n6_; have GE419 := n7_; have NB410_419 := n8_; have NB419_410 := n9_; have NB411_419 := n10_; have NB419_411 := n11_; have NB412_419 := n12_; have NB419_412 := n13_; clear n0_ n1_ n2_ n3_ n4_ n5_ n6_ n7_ n8_ n9_ n10_ n11_ n12_ n13_; clear hb hbox hg; have hnb18 := NB419_410.out; have hnc18 := NB410_419.out; have hnb19 := NB419_411.out; have hnc19 := NB411_419.out; have hnb20 := NB419_412.out; have hnc20 := NB412_419.out; have hcz21_0 := bz0 BK419; have hcz21_1 := bz1 BK419; have hfz21_0 := blk_frozen BK419.out 0; have hfz21_1 := blk_frozen BK419.out 1; have hcz22_0 := bz0 BK412; have hcz22_1 := bz1 BK412; have hfz22_0 := blk_frozen BK412.out 0; have hfz22_1 := blk_frozen BK412.out 1))
  refine bodyPost_ret (results_cell_row rfl _ _ gb412 25 #[.int .i64 t416, .int .i64 t417] (0, 0) _ rfl (by (repeat refine dw ?_); refine blk_put (cs := #[.int .i64 t416, .int .i64 0]) ?_ 1 _ rfl; (repeat refine dw ?_); refine blk_put (cs := #[.int .i64 0, .int .i64 0]) ?_ 0 _ rfl; (repeat refine dw ?_); refine blk_far ?_ NB412_419.out _; (repeat refine dw ?_); refine blk_far ?_ NB412_419.out _; (repeat refine dw ?_); exact BK412.out) Tryz.underlying25 rfl (by kernel_rfl)) rfl ?_
  exact ⟨fe, bbl⟩
mutual
def q10_Reduce.l0 : Nat → ByteArray → Bool → List (S39) → List (S39) → Bool → Int → Option (Int × Int × Int)
  | 0, _, _, _, _, _, _ => none
  | k + 1, x0, x1, x2, x8, x9, x10 => if x10 < (x2.length : Int) then (if 0 ≤ x10 then ((r8_Is.f ((rd_T39 x2 x10).f1.f0) ((rd_T39 x2 x10).f1.f1)).bind fun t428 => (if t428 = true then (if x1 = true then (if x8.length < 5864062014805 then ((some (x8 ++ [(⟨(rd_T39 x2 x10).f0, (⟨(rd_T39 x2 x10).f1.f0, (rd_T39 x2 x10).f1.f1⟩ : S25)⟩ : S39)] : List (S39))).bind fun y430 => (if x9 = true then (q10_Reduce.l0 k x0 x1 x2 y430 true (wrap64 (x10 + 1))) else ((r10_odd.f ((rd_T39 x2 x10).f1.f0) ((rd_T39 x2 x10).f1.f1)).bind fun t434 => (q10_Reduce.l0 k x0 x1 x2 y430 t434 (wrap64 (x10 + 1)))))) else (none)) else ((r10_odd.f ((rd_T39 x2 x10).f1.f0) ((rd_T39 x2 x10).f1.f1)).bind fun t436 => (if t436 = true then (q10_Reduce.l0 k x0 x1 x2 x8 x9 (wrap64 (x10 + 1))) else (if x8.length < 5864062014805 then ((some (x8 ++ [(⟨(rd_T39 x2 x10).f0, (⟨(rd_T39 x2 x10).f1.f0, (rd_T39 x2 x10).f1.f1⟩ : S25)⟩ : S39)] : List (S39))).bind fun y438 => (if x9 = true then (q10_Reduce.l0 k x0 x1 x2 y438 true (wrap64 (x10 + 1))) else ((r10_odd.f ((rd_T39 x2 x10).f1.f0) ((rd_T39 x2 x10).f1.f1)).bind fun t442 => (q10_Reduce.l0 k x0 x1 x2 y438 t442 (wrap64 (x10 + 1)))))) else (none))))) else (some (0, 0, 80)))) else (none)) else (if x0.toList = ([99, 111, 117, 110, 116] : List UInt8) then ((r8_Num.f (wrap64 (1000 * (x8.length : Int)))).bind fun bt443 => (some (bt443.1, bt443.2, 0))) else (if (x8.length : Int) = 0 then ((r8_Null.f).bind fun bt445 => (some (bt445.1, bt445.2, 0))) else (if x0.toList = ([108, 97, 115, 116] : List UInt8) then (q10_Reduce.l1 k x8 0 0) else (if x9 = true then ((r8_NaN.f).bind fun bt450 => (some (bt450.1, bt450.2, 0))) else (if 0 < (x8.length : Int) then (q10_Reduce.l2 k x0 x8 1 ((rd_T39 x8 0).f1.f0) ((rd_T39 x8 0).f1.f1)) else (none))))))
def q10_Reduce.l1 : Nat → List (S39) → Int → Int → Option (Int × Int × Int)
  | 0, _, _, _ => none
  | k + 1, x8, x11, x12 => if x12 < (x8.length : Int) then (if 0 ≤ x12 then (if 0 ≤ x11 then (if x11 < (x8.length : Int) then (if ((rd_T39 x8 x12).f0) ≥ ((rd_T39 x8 x11).f0) then (q10_Reduce.l1 k x8 x12 (wrap64 (x12 + 1))) else (q10_Reduce.l1 k x8 x11 (wrap64 (x12 + 1)))) else (none)) else (none)) else (none)) else (if 0 ≤ x11 then (if x11 < (x8.length : Int) then (some ((rd_T39 x8 x11).f1.f0, (rd_T39 x8 x11).f1.f1, 0)) else (none)) else (none))
def q10_Reduce.l2 : Nat → ByteArray → List (S39) → Int → Int → Int → Option (Int × Int × Int)
  | 0, _, _, _, _, _ => none
  | k + 1, x0, x8, x14, x454000, x454001 => if x14 < (x8.length : Int) then (if 0 ≤ x14 then (if x0.toList = ([109, 105, 110] : List UInt8) then ((r8_Less.f k ((rd_T39 x8 x14).f1.f0) ((rd_T39 x8 x14).f1.f1) x454000 x454001).bind fun t456 => (if t456 = true then (q10_Reduce.j3 k x0 x8 x14 true x454000 x454001 ((rd_T39 x8 x14).f1.f0) ((rd_T39 x8 x14).f1.f1)) else (if x0.toList = ([109, 97, 120] : List UInt8) then ((r8_Less.f k x454000 x454001 ((rd_T39 x8 x14).f1.f0) ((rd_T39 x8 x14).f1.f1)).bind fun t457 => (q10_Reduce.j3 k x0 x8 x14 t457 x454000 x454001 ((rd_T39 x8 x14).f1.f0) ((rd_T39 x8 x14).f1.f1))) else (q10_Reduce.j3 k x0 x8 x14 false x454000 x454001 ((rd_T39 x8 x14).f1.f0) ((rd_T39 x8 x14).f1.f1))))) else (if x0.toList = ([109, 97, 120] : List UInt8) then ((r8_Less.f k x454000 x454001 ((rd_T39 x8 x14).f1.f0) ((rd_T39 x8 x14).f1.f1)).bind fun t458 => (q10_Reduce.j3 k x0 x8 x14 t458 x454000 x454001 ((rd_T39 x8 x14).f1.f0) ((rd_T39 x8 x14).f1.f1))) else (q10_Reduce.j3 k x0 x8 x14 false x454000 x454001 ((rd_T39 x8 x14).f1.f0) ((rd_T39 x8 x14).f1.f1)))) else (none)) else (if x0.toList = ([109, 101, 97, 110] : List UInt8) then ((r8_Num.f (wrap64 (1000 * (x8.length : Int)))).bind fun bt463 => ((q10_do.f k (⟨#[47]⟩ : ByteArray) x454000 x454001 bt463.1 bt463.2).bind fun bt465 => (some (bt465.1, bt465.2, 0)))) else (some (x454000, x454001, 0)))
def q10_Reduce.j3 : Nat → ByteArray → List (S39) → Int → Bool → Int → Int → Int → Int → Option (Int × Int × Int)
  | 0, _, _, _, _, _, _, _, _ => none
  | k + 1, x0, x8, x14, x117, x454000, x454001, x456000, x456001 => if x117 = true then (q10_Reduce.l2 k x0 x8 (wrap64 (x14 + 1)) x456000 x456001) else (if x0.toList = ([115, 117, 109] : List UInt8) then ((q10_do.f k (⟨#[43]⟩ : ByteArray) x454000 x454001 x456000 x456001).bind fun bt459 => (q10_Reduce.l2 k x0 x8 (wrap64 (x14 + 1)) bt459.1 bt459.2)) else (if x0.toList = ([109, 101, 97, 110] : List UInt8) then ((q10_do.f k (⟨#[43]⟩ : ByteArray) x454000 x454001 x456000 x456001).bind fun bt461 => (q10_Reduce.l2 k x0 x8 (wrap64 (x14 + 1)) bt461.1 bt461.2)) else (q10_Reduce.l2 k x0 x8 (wrap64 (x14 + 1)) x454000 x454001)))
end
def q10_Reduce.f (k : Nat) (a0 : ByteArray) (a1 : Bool) (l2 : List (S39)) : Option (Int × Int × Int) := (r10_in.f k (([(⟨#[108, 97, 115, 116]⟩ : ByteArray), (⟨#[109, 105, 110]⟩ : ByteArray), (⟨#[109, 97, 120]⟩ : ByteArray), (⟨#[115, 117, 109]⟩ : ByteArray), (⟨#[109, 101, 97, 110]⟩ : ByteArray), (⟨#[99, 111, 117, 110, 116]⟩ : ByteArray)] : List ByteArray)) a0).bind fun t426 => (if t426 = true then (if (l2.length : Int) > 2000 then (some (0, 0, 6)) else (q10_Reduce.l0 k a0 a1 l2 ([] : List (S39)) false 0)) else (some (0, 0, 100)))
def q10_Reduce.T24 : Bool × List (List Nat × List Nat) := (true, [([], []), ([], []), ([0, 1], [0, 1]), ([2], [2]), ([3], [3]), ([], []), ([], []), ([5, 6], [5, 6]), ([7], [7]), ([8], [8]), ([4, 9], [4, 9])])
def q10_Reduce.B24 : List Nat := [0, 0, 3, 7, 15, 0, 0, 96, 224, 480, 1023]
theorem q10_Reduce.tab24 : rtab .any (opsOf Tryz.f11 24) = q10_Reduce.T24 := by kernel_rfl
theorem q10_Reduce.bits24 : waitsOk q10_Reduce.T24.2 q10_Reduce.B24 = true := by kernel_rfl
theorem q10_Reduce.calls (k : Nat) (a0 : ByteArray) (a1 : Bool) (A2 : Option Addr) (c2 : Nat) (l2 : List (S39)) (r1 : Int) (r2 : Int) (r3 : Int) (w : World) (hr2 : Kd.C k39 w A2 l2.length l2) (hc2 : l2.length ≤ c2) (h : q10_Reduce.f k a0 a1 l2 = some (r1, r2, r3)) :
    Calls Tryz.prog 11 #[.string a0, .bool a1, .slice A2 l2.length c2] w fun e w' => e = .returned (.tuple #[.agg #[.int .i64 r1, .int .i64 r2], .int .i64 r3]) ∧ Below w.heap.size w w' := by
  have hu25 := Tryz.underlying25
  have hu39 := Tryz.underlying39
  have HR2 := Sd.mk hr2
  have HC2 := Sd.mk hc2
  clear hr2 hc2
  have HB := Sd.mk (Below.refl w.heap.size w)
  have H : ((r10_in.f k (([(⟨#[108, 97, 115, 116]⟩ : ByteArray), (⟨#[109, 105, 110]⟩ : ByteArray), (⟨#[109, 97, 120]⟩ : ByteArray), (⟨#[115, 117, 109]⟩ : ByteArray), (⟨#[109, 101, 97, 110]⟩ : ByteArray), (⟨#[99, 111, 117, 110, 116]⟩ : ByteArray)] : List ByteArray)) a0).bind fun t426 => (if t426 = true then (if (l2.length : Int) > 2000 then (some (0, 0, 6)) else (q10_Reduce.l0 k a0 a1 l2 ([] : List (S39)) false 0)) else (some (0, 0, 100)))) = some (r1, r2, r3) := h
  clear h
  obtain ⟨y423, hy423⟩ : ∃ y_ : List ByteArray, y_ = (([(⟨#[108, 97, 115, 116]⟩ : ByteArray), (⟨#[109, 105, 110]⟩ : ByteArray), (⟨#[109, 97, 120]⟩ : ByteArray), (⟨#[115, 117, 109]⟩ : ByteArray), (⟨#[109, 101, 97, 110]⟩ : ByteArray), (⟨#[99, 111, 117, 110, 116]⟩ : ByteArray)] : List ByteArray)) := ⟨_, rfl⟩
  replace H : ((r10_in.f k y423 a0).bind fun t426 => (if t426 = true then (if (l2.length : Int) > 2000 then (some (0, 0, 6)) else (q10_Reduce.l0 k a0 a1 l2 ([] : List (S39)) false 0)) else (some (0, 0, 100)))) = some (r1, r2, r3) := by first | (rw [hy423]; with_reducible exact H) | (have H2_ := (Option.bind_some _ _).symm.trans H; rw [hy423]; with_reducible exact H2_) | (have H2_ := (Option.bind_some _ _).symm.trans H; with_reducible exact H2_) | with_reducible exact H | (rw [hy423]; exact H) | exact H
  have Ny423 := Sd.mk hy423
  clear hy423
  obtain ⟨t426, A4, H⟩ := bnd H
  by_cases c5 : t426 = true
  · subst c5
    replace H := iT H
    by_cases c6 : (l2.length : Int) > 2000
    · rw [if_pos c6] at H
      have c6b0 : decide (2000 < (l2.length : Int)) = true := decide_eq_true c6
      have c6b1 : decide (2000 < l2.length) = true := decide_eq_true (by omega)
      clear c6
      simp only [Option.some.injEq, Prod.mk.injEq] at H
      obtain ⟨rfl, rfl, rfl⟩ := H
      go_enter Tryz.func11, Tryz.ntmps11
      go_wp2_with (first | ((with_reducible refine gate_dst (N := 6) rfl ?_); refine bxe (N := 6) (cs := #[.int .i64 0, .int .i64 0]) (t := 25) ?_; intro gb422 hg w7 hbox hb; have BK422 := Sd.mk hbox; have GW422 := bge w hg; have GE422 := bge w hg; replace HB := bsq w hb; clear hb hbox hg) | ((with_reducible refine gate_dst (N := 16) rfl ?_); refine Kd.R_lit Kd.string _ 9 ?hg (N := 16) ?hd (xs := ([(⟨#[108, 97, 115, 116]⟩ : ByteArray), (⟨#[109, 105, 110]⟩ : ByteArray), (⟨#[109, 97, 120]⟩ : ByteArray), (⟨#[115, 117, 109]⟩ : ByteArray), (⟨#[109, 101, 97, 110]⟩ : ByteArray), (⟨#[99, 111, 117, 110, 116]⟩ : ByteArray)] : List ByteArray)) (inner := [.string (⟨#[108, 97, 115, 116]⟩ : ByteArray), .string (⟨#[109, 105, 110]⟩ : ByteArray), .string (⟨#[109, 97, 120]⟩ : ByteArray), .string (⟨#[115, 117, 109]⟩ : ByteArray), .string (⟨#[109, 101, 97, 110]⟩ : ByteArray), .string (⟨#[99, 111, 117, 110, 116]⟩ : ByteArray)]) (ok := fun _ => True) (okp := fun _ => True) ?hr ?hp (fun _ hk => hk) trivial (Below.refl _ _) (Nat.le_refl _) (by simp) ?_; (case hd => rfl); (case hg => rfl); (case hr => first | (go_simp; done) | (go_simp; rfl)); (case hp => exact (Reps.one (show Kd.M Kd.string _ _ _ (⟨#[108, 97, 115, 116]⟩ : ByteArray) [.string (⟨#[108, 97, 115, 116]⟩ : ByteArray)] from rfl) (Reps.one (show Kd.M Kd.string _ _ _ (⟨#[109, 105, 110]⟩ : ByteArray) [.string (⟨#[109, 105, 110]⟩ : ByteArray)] from rfl) (Reps.one (show Kd.M Kd.string _ _ _ (⟨#[109, 97, 120]⟩ : ByteArray) [.string (⟨#[109, 97, 120]⟩ : ByteArray)] from rfl) (Reps.one (show Kd.M Kd.string _ _ _ (⟨#[115, 117, 109]⟩ : ByteArray) [.string (⟨#[115, 117, 109]⟩ : ByteArray)] from rfl) (Reps.one (show Kd.M Kd.string _ _ _ (⟨#[109, 101, 97, 110]⟩ : ByteArray) [.string (⟨#[109, 101, 97, 110]⟩ : ByteArray)] from rfl) (Reps.one (show Kd.M Kd.string _ _ _ (⟨#[99, 111, 117, 110, 116]⟩ : ByteArray) [.string (⟨#[99, 111, 117, 110, 116]⟩ : ByteArray)] from rfl) (Reps.none _ _)))))))); intro v424 w8 ho9 hb hg_ hnew_; clear hg_ hnew_; (first | rw [← Ny423.out] at ho9 | (simp only [Int.reduceToNat] at ho9; rw [← Ny423.out] at ho9)); have n0_ := Sd.mk (Kd.R_lower ho9 (below_size bbl)); have n1_ := bkb BK422 hb; have n2_ := bsq w hb; clear BK422; clear HB; have HO425 := n0_; have BK422 := n1_; have HB := n2_; clear n0_ n1_ n2_; clear hb ho9; obtain ⟨Ao10, co10, eo10⟩ := Kd.R_slice HO425.out; subst eo10) | ((with_reducible refine gate_callee (f := 46) rfl ?_); refine goesL_ (some 18) rfl rfl Tryz.func46 (by kernel_rfl) rfl #[.slice Ao10 y423.length co10, .string a0] rfl ma ?_; (with_reducible refine (r10_in.calls k _ _ y423 a0 true _ ?side1 ?side2 A4.out).mono ?_); (case side1 => repeat (first | exact (Kd.R_reads' HO425.out).2.2 | (with_reducible refine Kd.C_alloc ?_ _) | (with_reducible refine Kd.C_drewN ?_ _) | (with_reducible refine Kd.C_drew ?_))); (case side2 => exact (Kd.R_reads' HO425.out).2.1); rintro e w' ⟨rfl, ⟨nd, rfl⟩⟩; refine ⟨_, rfl, ?_⟩; (try (rw [drewN_self w8]; generalize hq_ : World.drewN w8 _ = w8; have n0_ : Sd (Kd.R Kd.string 9 w8 w.heap.size (fun _ => True) (.slice Ao10 y423.length co10) y423) := ⟨by rw [← hq_]; exact (by (repeat refine dR ?_); exact HO425.out)⟩; have n1_ : Sd (w8.heap[gb422]? = some (.cells #[.int .i64 0, .int .i64 0] 25 (0, 0))) := ⟨by rw [← hq_]; exact (by exact blkF BK422.out)⟩; have n2_ : Sd (Below w.heap.size w w8) := ⟨by rw [← hq_]; exact bbl⟩; clear HO425 BK422 HB hq_; have HO425 := n0_; have BK422 := n1_; have HB := n2_; clear n0_ n1_ n2_)); have hcz11_0 := bz0 BK422; have hcz11_1 := bz1 BK422; have hfz11_0 := blk_frozen BK422.out 0; have hfz11_1 := blk_frozen BK422.out 1))
      refine bodyPost_ret (results_ct rfl _ _ gb422 25 #[.int .i64 0, .int .i64 0] (0, 0) _ rfl (by (repeat refine dw ?_); refine blk_put (cs := #[.int .i64 0, .int .i64 0]) ?_ 1 _ rfl; (repeat refine dw ?_); refine blk_put (cs := #[.int .i64 0, .int .i64 0]) ?_ 0 _ rfl; (repeat refine dw ?_); exact BK422.out) Tryz.underlying25 rfl (by kernel_rfl)) rfl ?_
      exact ⟨fe, bbl⟩
    · rw [if_neg c6] at H
      have c6b0 : decide (2000 < (l2.length : Int)) = false := decide_eq_false c6
      have c6b1 : decide (2000 < l2.length) = false := decide_eq_false (by omega)
      clear c6
      have H' := Sd.mk H
      clear H
      go_enter Tryz.func11, Tryz.ntmps11
      go_wp2_with (first | ((with_reducible refine gate_dst (N := 6) rfl ?_); refine bxe (N := 6) (cs := #[.int .i64 0, .int .i64 0]) (t := 25) ?_; intro gb422 hg w12 hbox hb; have BK422 := Sd.mk hbox; have GW422 := bge w hg; have GE422 := bge w hg; replace HB := bsq w hb; clear hb hbox hg) | ((with_reducible refine gate_dst (N := 16) rfl ?_); refine Kd.R_lit Kd.string _ 9 ?hg (N := 16) ?hd (xs := ([(⟨#[108, 97, 115, 116]⟩ : ByteArray), (⟨#[109, 105, 110]⟩ : ByteArray), (⟨#[109, 97, 120]⟩ : ByteArray), (⟨#[115, 117, 109]⟩ : ByteArray), (⟨#[109, 101, 97, 110]⟩ : ByteArray), (⟨#[99, 111, 117, 110, 116]⟩ : ByteArray)] : List ByteArray)) (inner := [.string (⟨#[108, 97, 115, 116]⟩ : ByteArray), .string (⟨#[109, 105, 110]⟩ : ByteArray), .string (⟨#[109, 97, 120]⟩ : ByteArray), .string (⟨#[115, 117, 109]⟩ : ByteArray), .string (⟨#[109, 101, 97, 110]⟩ : ByteArray), .string (⟨#[99, 111, 117, 110, 116]⟩ : ByteArray)]) (ok := fun _ => True) (okp := fun _ => True) ?hr ?hp (fun _ hk => hk) trivial (Below.refl _ _) (Nat.le_refl _) (by simp) ?_; (case hd => rfl); (case hg => rfl); (case hr => first | (go_simp; done) | (go_simp; rfl)); (case hp => exact (Reps.one (show Kd.M Kd.string _ _ _ (⟨#[108, 97, 115, 116]⟩ : ByteArray) [.string (⟨#[108, 97, 115, 116]⟩ : ByteArray)] from rfl) (Reps.one (show Kd.M Kd.string _ _ _ (⟨#[109, 105, 110]⟩ : ByteArray) [.string (⟨#[109, 105, 110]⟩ : ByteArray)] from rfl) (Reps.one (show Kd.M Kd.string _ _ _ (⟨#[109, 97, 120]⟩ : ByteArray) [.string (⟨#[109, 97, 120]⟩ : ByteArray)] from rfl) (Reps.one (show Kd.M Kd.string _ _ _ (⟨#[115, 117, 109]⟩ : ByteArray) [.string (⟨#[115, 117, 109]⟩ : ByteArray)] from rfl) (Reps.one (show Kd.M Kd.string _ _ _ (⟨#[109, 101, 97, 110]⟩ : ByteArray) [.string (⟨#[109, 101, 97, 110]⟩ : ByteArray)] from rfl) (Reps.one (show Kd.M Kd.string _ _ _ (⟨#[99, 111, 117, 110, 116]⟩ : ByteArray) [.string (⟨#[99, 111, 117, 110, 116]⟩ : ByteArray)] from rfl) (Reps.none _ _)))))))); intro v424 w13 ho14 hb hg_ hnew_; clear hg_ hnew_; (first | rw [← Ny423.out] at ho14 | (simp only [Int.reduceToNat] at ho14; rw [← Ny423.out] at ho14)); have n0_ := Sd.mk (Kd.R_lower ho14 (below_size bbl)); have n1_ := bkb BK422 hb; have n2_ := bsq w hb; clear BK422; clear HB; have HO425 := n0_; have BK422 := n1_; have HB := n2_; clear n0_ n1_ n2_; clear hb ho14; obtain ⟨Ao15, co15, eo15⟩ := Kd.R_slice HO425.out; subst eo15) | ((with_reducible refine gate_callee (f := 46) rfl ?_); refine goesL_ (some 18) rfl rfl Tryz.func46 (by kernel_rfl) rfl #[.slice Ao15 y423.length co15, .string a0] rfl ma ?_; (with_reducible refine (r10_in.calls k _ _ y423 a0 true _ ?side1 ?side2 A4.out).mono ?_); (case side1 => repeat (first | exact (Kd.R_reads' HO425.out).2.2 | (with_reducible refine Kd.C_alloc ?_ _) | (with_reducible refine Kd.C_drewN ?_ _) | (with_reducible refine Kd.C_drew ?_))); (case side2 => exact (Kd.R_reads' HO425.out).2.1); rintro e w' ⟨rfl, ⟨nd, rfl⟩⟩; refine ⟨_, rfl, ?_⟩))
      go_loopg [8, 9, 10] k (fun kq v8 v9 v10 w' => ∃ (x8_1 : List (S39)) (x9_1 : Bool) (x10_1 : Int) (x423000_1 : Int) (x423001_1 : Int), v9 = .bool x9_1 ∧ v10 = .int .i64 x10_1 ∧ Sd (q10_Reduce.l0 kq a0 a1 l2 x8_1 x9_1 x10_1 = some (r1, r2, r3)) ∧ Sd (kq ≤ k) ∧ Sd (Kd.R k39 39 w' w.heap.size (fun _ => True) v8 x8_1) ∧ Sd (w'.heap[gb422]? = some (.cells #[.int .i64 x423000_1, .int .i64 x423001_1] 25 (0, 0))) ∧ Sd (Below w.heap.size w w'))
      case atStart => exact ⟨(([] : List (S39))), (false), (0), (0), (0), ae, ae, H', ⟨Nat.le_refl _⟩, ⟨by first | exact Kd.R_nil _ _ _ _ _ | exact Kd.N_nil _ _ _ _ _ | exact Kd.V_nil _ _ _ _ _ | exact Kd.Q_nil _ _ _ _ _ | exact Kd.S_nil _ _ _ _ _⟩, fwK BK422, ⟨bbl⟩⟩
      case round =>
        clear H'
        obtain ⟨x8_1, x9_1, x10_1, x423000_1, x423001_1, rfl, rfl, HA, HK1, HO_8, BK422, HB⟩ := hrel
        cases gk with
        | zero => exact absurd HA.out (by simp [q10_Reduce.l0])
        | succ k1 =>
          have H := HA.out
          clear HA
          simp only [q10_Reduce.l0] at H
          by_cases c16 : x10_1 < (l2.length : Int)
          · rw [if_pos c16] at H
            have c16b0 : decide (x10_1 < (l2.length : Int)) = true := decide_eq_true c16
            clear c16
            by_cases c17 : 0 ≤ x10_1
            · rw [if_pos c17] at H
              have c17b0 : decide (0 ≤ x10_1) = true := decide_eq_true c17
              clear c17
              obtain ⟨t428, A18, H⟩ := bnd H
              by_cases c19 : t428 = true
              · subst c19
                replace H := iT H
                by_cases c20 : a1 = true
                · subst c20
                  replace H := iT H
                  by_cases c21 : x8_1.length < 5864062014805
                  · rw [if_pos c21] at H
                    have LMc21 := Sd.mk c21
                    clear c21
                    obtain ⟨y430, hy430⟩ : ∃ y_ : List (S39), y_ = (x8_1 ++ [(⟨(rd_T39 l2 x10_1).f0, (⟨(rd_T39 l2 x10_1).f1.f0, (rd_T39 l2 x10_1).f1.f1⟩ : S25)⟩ : S39)]) := ⟨_, rfl⟩
                    replace H : (if x9_1 = true then (q10_Reduce.l0 k1 a0 true l2 y430 true (wrap64 (x10_1 + 1))) else ((r10_odd.f ((rd_T39 l2 x10_1).f1.f0) ((rd_T39 l2 x10_1).f1.f1)).bind fun t434 => (q10_Reduce.l0 k1 a0 true l2 y430 t434 (wrap64 (x10_1 + 1))))) = some (r1, r2, r3) := by first | (rw [hy430]; with_reducible exact H) | (have H2_ := (Option.bind_some _ _).symm.trans H; rw [hy430]; with_reducible exact H2_) | (have H2_ := (Option.bind_some _ _).symm.trans H; with_reducible exact H2_) | with_reducible exact H | (rw [hy430]; exact H) | exact H
                    have Ny430 := Sd.mk hy430
                    clear hy430
                    by_cases c22 : x9_1 = true
                    · subst c22
                      replace H := iT H
                      have H' := Sd.mk H
                      clear H
                      have p427 : 0 ≤ (x10_1 : Int) := ode
                      have q427 : x10_1 < (l2.length : Int) := ode
                      obtain ⟨ad427, e427, hx427_0, hx427_1, hx427_2⟩ := at_T39 HR2.out x10_1 p427 q427
                      cases e427
                      replace hx427_0 := hxc HB hx427_0
                      replace hx427_1 := hxc HB hx427_1
                      replace hx427_2 := hxc HB hx427_2
                      replace p427 := eq_true p427
                      replace q427 := eq_true q427
                      go_wp2_with (first | ((with_reducible refine gate_callee (f := 18) rfl ?_); refine goesL_ (some 36) rfl rfl Tryz.func18 (by kernel_rfl) rfl #[.agg #[.int .i64 ((rd_T39 l2 x10_1).f1.f0), .int .i64 ((rd_T39 l2 x10_1).f1.f1)]] rfl ma ?_; (with_reducible refine (r8_Is.calls ((rd_T39 l2 x10_1).f1.f0) ((rd_T39 l2 x10_1).f1.f1) true _ A18.out).mono ?_); rintro e w23 ⟨rfl, hb⟩; refine ⟨_, rfl, ?_⟩; replace HO_8 := brb HO_8 hb; replace BK422 := bkb BK422 hb; replace HB := bsq w hb; (try clear hb); have p429 : 0 ≤ (x10_1 : Int) := ode; have q429 : x10_1 < (l2.length : Int) := ode; obtain ⟨ad429, e429, hx429_0, hx429_1, hx429_2⟩ := at_T39 HR2.out x10_1 p429 q429; obtain rfl : ad427 = ad429 := (by injection e429); replace hx429_0 := hxc HB hx429_0; replace hx429_1 := hxc HB hx429_1; replace hx429_2 := hxc HB hx429_2; replace p429 := eq_true p429; replace q429 := eq_true q429) | ((with_reducible refine gate_builtin (b := .append) (xs := #[.tmp 49, .tmp 54]) rfl ?_); at_builtin; refine Kd.R_append k39 (w0 := w) w.heap.size rfl (.tmp 49) (.tmp 54) 22 39 (.agg #[(.int .i64 0), (.int .i64 0), (.int .i64 0)]) 24 rfl Tryz.underlying22 info39 rfl (by decide) (by omega) u8 x8_1 (⟨(rd_T39 l2 x10_1).f0, (⟨(rd_T39 l2 x10_1).f1.f0, (rd_T39 l2 x10_1).f1.f1⟩ : S25)⟩ : S39) [.int .i64 ((rd_T39 l2 x10_1).f0), .int .i64 ((rd_T39 l2 x10_1).f1.f0), .int .i64 ((rd_T39 l2 x10_1).f1.f1)] (fun _ => True) (fun _ => False) rfl rfl ?aP (fun _ hk => hk.elim) ?aF ?aO ?aB ?aS ?aL ?_; (case aP => exact k39_mkM _ _ _ (⟨(rd_T39 l2 x10_1).f0, (⟨(rd_T39 l2 x10_1).f1.f0, (rd_T39 l2 x10_1).f1.f1⟩ : S25)⟩ : S39)); (case aB => exact bbl); (case aF => exact (fun _ _ => trivial)); (case aO => exact (by (repeat refine dR ?_); exact HO_8.out)); (case aS => exact (below_size bbl)); (case aL => have := LMc21.out; omega); intro v431 w24 ho hb hg hat; rw [← Ny430.out] at ho; have n0_ := Sd.mk (blk_grown (g := gb422) (o := .cells #[.int .i64 x423000_1, .int .i64 x423001_1] 25 (0, 0)) (by exact blkF BK422.out) hg (Kd.R_ne HO_8.out BK422.out (by decide))); have n1_ := Sd.mk (hb); have n2_ := Sd.mk (ho); clear BK422; clear HB; clear HO_8; have BK422 := n0_; have HB := n1_; have HO432 := n2_; clear n0_ n1_ n2_; clear ho hb hg hat))
                      go_roundg k1
                      case measure => have := HK1.out; omega
                      case rel => exact ⟨(y430), (true), (wrap64 (x10_1 + 1)), (x423000_1), (x423001_1), ae, ae, H', ⟨by have := HK1.out; omega⟩, fwR HO432, fwK BK422, ⟨bbl⟩⟩
                    · replace c22 := Bool.eq_false_iff.mpr c22
                      subst c22
                      replace H := iF H
                      obtain ⟨t434, A25, H⟩ := bnd H
                      have H' := Sd.mk H
                      clear H
                      have p427 : 0 ≤ (x10_1 : Int) := ode
                      have q427 : x10_1 < (l2.length : Int) := ode
                      obtain ⟨ad427, e427, hx427_0, hx427_1, hx427_2⟩ := at_T39 HR2.out x10_1 p427 q427
                      cases e427
                      replace hx427_0 := hxc HB hx427_0
                      replace hx427_1 := hxc HB hx427_1
                      replace hx427_2 := hxc HB hx427_2
                      replace p427 := eq_true p427
                      replace q427 := eq_true q427
                      go_wp2_with (first | ((with_reducible refine gate_callee (f := 18) rfl ?_); refine goesL_ (some 36) rfl rfl Tryz.func18 (by kernel_rfl) rfl #[.agg #[.int .i64 ((rd_T39 l2 x10_1).f1.f0), .int .i64 ((rd_T39 l2 x10_1).f1.f1)]] rfl ma ?_; (with_reducible refine (r8_Is.calls ((rd_T39 l2 x10_1).f1.f0) ((rd_T39 l2 x10_1).f1.f1) true _ A18.out).mono ?_); rintro e w26 ⟨rfl, hb⟩; refine ⟨_, rfl, ?_⟩; replace HO_8 := brb HO_8 hb; replace BK422 := bkb BK422 hb; replace HB := bsq w hb; (try clear hb); have p429 : 0 ≤ (x10_1 : Int) := ode; have q429 : x10_1 < (l2.length : Int) := ode; obtain ⟨ad429, e429, hx429_0, hx429_1, hx429_2⟩ := at_T39 HR2.out x10_1 p429 q429; obtain rfl : ad427 = ad429 := (by injection e429); replace hx429_0 := hxc HB hx429_0; replace hx429_1 := hxc HB hx429_1; replace hx429_2 := hxc HB hx429_2; replace p429 := eq_true p429; replace q429 := eq_true q429) | ((with_reducible refine gate_builtin (b := .append) (xs := #[.tmp 49, .tmp 54]) rfl ?_); at_builtin; refine Kd.R_append k39 (w0 := w) w.heap.size rfl (.tmp 49) (.tmp 54) 22 39 (.agg #[(.int .i64 0), (.int .i64 0), (.int .i64 0)]) 24 rfl Tryz.underlying22 info39 rfl (by decide) (by omega) u8 x8_1 (⟨(rd_T39 l2 x10_1).f0, (⟨(rd_T39 l2 x10_1).f1.f0, (rd_T39 l2 x10_1).f1.f1⟩ : S25)⟩ : S39) [.int .i64 ((rd_T39 l2 x10_1).f0), .int .i64 ((rd_T39 l2 x10_1).f1.f0), .int .i64 ((rd_T39 l2 x10_1).f1.f1)] (fun _ => True) (fun _ => False) rfl rfl ?aP (fun _ hk => hk.elim) ?aF ?aO ?aB ?aS ?aL ?_; (case aP => exact k39_mkM _ _ _ (⟨(rd_T39 l2 x10_1).f0, (⟨(rd_T39 l2 x10_1).f1.f0, (rd_T39 l2 x10_1).f1.f1⟩ : S25)⟩ : S39)); (case aB => exact bbl); (case aF => exact (fun _ _ => trivial)); (case aO => exact (by (repeat refine dR ?_); exact HO_8.out)); (case aS => exact (below_size bbl)); (case aL => have := LMc21.out; omega); intro v431 w27 ho hb hg hat; rw [← Ny430.out] at ho; have n0_ := Sd.mk (blk_grown (g := gb422) (o := .cells #[.int .i64 x423000_1, .int .i64 x423001_1] 25 (0, 0)) (by exact blkF BK422.out) hg (Kd.R_ne HO_8.out BK422.out (by decide))); have n1_ := Sd.mk (hb); have n2_ := Sd.mk (ho); clear BK422; clear HB; clear HO_8; have BK422 := n0_; have HB := n1_; have HO432 := n2_; clear n0_ n1_ n2_; clear ho hb hg hat; have p433 : 0 ≤ (x10_1 : Int) := ode; have q433 : x10_1 < (l2.length : Int) := ode; obtain ⟨ad433, e433, hx433_0, hx433_1, hx433_2⟩ := at_T39 HR2.out x10_1 p433 q433; obtain rfl : ad427 = ad433 := (by injection e433); replace hx433_0 := hxc HB hx433_0; replace hx433_1 := hxc HB hx433_1; replace hx433_2 := hxc HB hx433_2; replace p433 := eq_true p433; replace q433 := eq_true q433) | (go_at_call 47; (with_reducible refine (r10_odd.calls ((rd_T39 l2 x10_1).f1.f0) ((rd_T39 l2 x10_1).f1.f1) t434 _ A25.out).mono ?_); rintro e w28 ⟨rfl, hb⟩; replace HO432 := brb HO432 hb; replace BK422 := bkb BK422 hb; replace HB := bsq w hb; (try clear hb)))
                      go_roundg k1
                      case measure => have := HK1.out; omega
                      case rel => exact ⟨(y430), (t434), (wrap64 (x10_1 + 1)), (x423000_1), (x423001_1), ae, ae, H', ⟨by have := HK1.out; omega⟩, fwR HO432, fwK BK422, ⟨bbl⟩⟩
                  · rw [if_neg c21] at H
                    exact absurd H (by simp)
                · replace c20 := Bool.eq_false_iff.mpr c20
                  subst c20
                  replace H := iF H
                  obtain ⟨t436, A29, H⟩ := bnd H
                  by_cases c30 : t436 = true
                  · subst c30
                    replace H := iT H
                    have H' := Sd.mk H
                    clear H
                    have p427 : 0 ≤ (x10_1 : Int) := ode
                    have q427 : x10_1 < (l2.length : Int) := ode
                    obtain ⟨ad427, e427, hx427_0, hx427_1, hx427_2⟩ := at_T39 HR2.out x10_1 p427 q427
                    cases e427
                    replace hx427_0 := hxc HB hx427_0
                    replace hx427_1 := hxc HB hx427_1
                    replace hx427_2 := hxc HB hx427_2
                    replace p427 := eq_true p427
                    replace q427 := eq_true q427
                    go_wp2_with (first | ((with_reducible refine gate_callee (f := 18) rfl ?_); refine goesL_ (some 36) rfl rfl Tryz.func18 (by kernel_rfl) rfl #[.agg #[.int .i64 ((rd_T39 l2 x10_1).f1.f0), .int .i64 ((rd_T39 l2 x10_1).f1.f1)]] rfl ma ?_; (with_reducible refine (r8_Is.calls ((rd_T39 l2 x10_1).f1.f0) ((rd_T39 l2 x10_1).f1.f1) true _ A18.out).mono ?_); rintro e w31 ⟨rfl, hb⟩; refine ⟨_, rfl, ?_⟩; replace HO_8 := brb HO_8 hb; replace BK422 := bkb BK422 hb; replace HB := bsq w hb; (try clear hb); have p435 : 0 ≤ (x10_1 : Int) := ode; have q435 : x10_1 < (l2.length : Int) := ode; obtain ⟨ad435, e435, hx435_0, hx435_1, hx435_2⟩ := at_T39 HR2.out x10_1 p435 q435; obtain rfl : ad427 = ad435 := (by injection e435); replace hx435_0 := hxc HB hx435_0; replace hx435_1 := hxc HB hx435_1; replace hx435_2 := hxc HB hx435_2; replace p435 := eq_true p435; replace q435 := eq_true q435) | (go_at_call 47; (with_reducible refine (r10_odd.calls ((rd_T39 l2 x10_1).f1.f0) ((rd_T39 l2 x10_1).f1.f1) true _ A29.out).mono ?_); rintro e w32 ⟨rfl, hb⟩; replace HO_8 := brb HO_8 hb; replace BK422 := bkb BK422 hb; replace HB := bsq w hb; (try clear hb)))
                    go_roundg k1
                    case measure => have := HK1.out; omega
                    case rel => exact ⟨(x8_1), (x9_1), (wrap64 (x10_1 + 1)), (x423000_1), (x423001_1), ae, ae, H', ⟨by have := HK1.out; omega⟩, fwR HO_8, fwK BK422, ⟨bbl⟩⟩
                  · replace c30 := Bool.eq_false_iff.mpr c30
                    subst c30
                    replace H := iF H
                    by_cases c33 : x8_1.length < 5864062014805
                    · rw [if_pos c33] at H
                      have LMc33 := Sd.mk c33
                      clear c33
                      obtain ⟨y438, hy438⟩ : ∃ y_ : List (S39), y_ = (x8_1 ++ [(⟨(rd_T39 l2 x10_1).f0, (⟨(rd_T39 l2 x10_1).f1.f0, (rd_T39 l2 x10_1).f1.f1⟩ : S25)⟩ : S39)]) := ⟨_, rfl⟩
                      replace H : (if x9_1 = true then (q10_Reduce.l0 k1 a0 false l2 y438 true (wrap64 (x10_1 + 1))) else ((r10_odd.f ((rd_T39 l2 x10_1).f1.f0) ((rd_T39 l2 x10_1).f1.f1)).bind fun t442 => (q10_Reduce.l0 k1 a0 false l2 y438 t442 (wrap64 (x10_1 + 1))))) = some (r1, r2, r3) := by first | (rw [hy438]; with_reducible exact H) | (have H2_ := (Option.bind_some _ _).symm.trans H; rw [hy438]; with_reducible exact H2_) | (have H2_ := (Option.bind_some _ _).symm.trans H; with_reducible exact H2_) | with_reducible exact H | (rw [hy438]; exact H) | exact H
                      have Ny438 := Sd.mk hy438
                      clear hy438
                      by_cases c34 : x9_1 = true
                      · subst c34
                        replace H := iT H
                        have H' := Sd.mk H
                        clear H
                        have p427 : 0 ≤ (x10_1 : Int) := ode
                        have q427 : x10_1 < (l2.length : Int) := ode
                        obtain ⟨ad427, e427, hx427_0, hx427_1, hx427_2⟩ := at_T39 HR2.out x10_1 p427 q427
                        cases e427
                        replace hx427_0 := hxc HB hx427_0
                        replace hx427_1 := hxc HB hx427_1
                        replace hx427_2 := hxc HB hx427_2
                        replace p427 := eq_true p427
                        replace q427 := eq_true q427
                        go_wp2_with (first | ((with_reducible refine gate_callee (f := 18) rfl ?_); refine goesL_ (some 36) rfl rfl Tryz.func18 (by kernel_rfl) rfl #[.agg #[.int .i64 ((rd_T39 l2 x10_1).f1.f0), .int .i64 ((rd_T39 l2 x10_1).f1.f1)]] rfl ma ?_; (with_reducible refine (r8_Is.calls ((rd_T39 l2 x10_1).f1.f0) ((rd_T39 l2 x10_1).f1.f1) true _ A18.out).mono ?_); rintro e w35 ⟨rfl, hb⟩; refine ⟨_, rfl, ?_⟩; replace HO_8 := brb HO_8 hb; replace BK422 := bkb BK422 hb; replace HB := bsq w hb; (try clear hb); have p435 : 0 ≤ (x10_1 : Int) := ode; have q435 : x10_1 < (l2.length : Int) := ode; obtain ⟨ad435, e435, hx435_0, hx435_1, hx435_2⟩ := at_T39 HR2.out x10_1 p435 q435; obtain rfl : ad427 = ad435 := (by injection e435); replace hx435_0 := hxc HB hx435_0; replace hx435_1 := hxc HB hx435_1; replace hx435_2 := hxc HB hx435_2; replace p435 := eq_true p435; replace q435 := eq_true q435) | (go_at_call 47; (with_reducible refine (r10_odd.calls ((rd_T39 l2 x10_1).f1.f0) ((rd_T39 l2 x10_1).f1.f1) false _ A29.out).mono ?_); rintro e w36 ⟨rfl, hb⟩; replace HO_8 := brb HO_8 hb; replace BK422 := bkb BK422 hb; replace HB := bsq w hb; (try clear hb); have p437 : 0 ≤ (x10_1 : Int) := ode; have q437 : x10_1 < (l2.length : Int) := ode; obtain ⟨ad437, e437, hx437_0, hx437_1, hx437_2⟩ := at_T39 HR2.out x10_1 p437 q437; obtain rfl : ad427 = ad437 := (by injection e437); replace hx437_0 := hxc HB hx437_0; replace hx437_1 := hxc HB hx437_1; replace hx437_2 := hxc HB hx437_2; replace p437 := eq_true p437; replace q437 := eq_true q437) | ((with_reducible refine gate_builtin (b := .append) (xs := #[.tmp 49, .tmp 54]) rfl ?_); at_builtin; refine Kd.R_append k39 (w0 := w) w.heap.size rfl (.tmp 49) (.tmp 54) 22 39 (.agg #[(.int .i64 0), (.int .i64 0), (.int .i64 0)]) 24 rfl Tryz.underlying22 info39 rfl (by decide) (by omega) u8 x8_1 (⟨(rd_T39 l2 x10_1).f0, (⟨(rd_T39 l2 x10_1).f1.f0, (rd_T39 l2 x10_1).f1.f1⟩ : S25)⟩ : S39) [.int .i64 ((rd_T39 l2 x10_1).f0), .int .i64 ((rd_T39 l2 x10_1).f1.f0), .int .i64 ((rd_T39 l2 x10_1).f1.f1)] (fun _ => True) (fun _ => False) rfl rfl ?aP (fun _ hk => hk.elim) ?aF ?aO ?aB ?aS ?aL ?_; (case aP => exact k39_mkM _ _ _ (⟨(rd_T39 l2 x10_1).f0, (⟨(rd_T39 l2 x10_1).f1.f0, (rd_T39 l2 x10_1).f1.f1⟩ : S25)⟩ : S39)); (case aB => exact bbl); (case aF => exact (fun _ _ => trivial)); (case aO => exact (by (repeat refine dR ?_); exact HO_8.out)); (case aS => exact (below_size bbl)); (case aL => have := LMc33.out; omega); intro v439 w37 ho hb hg hat; rw [← Ny438.out] at ho; have n0_ := Sd.mk (blk_grown (g := gb422) (o := .cells #[.int .i64 x423000_1, .int .i64 x423001_1] 25 (0, 0)) (by exact blkF BK422.out) hg (Kd.R_ne HO_8.out BK422.out (by decide))); have n1_ := Sd.mk (hb); have n2_ := Sd.mk (ho); clear BK422; clear HB; clear HO_8; have BK422 := n0_; have HB := n1_; have HO440 := n2_; clear n0_ n1_ n2_; clear ho hb hg hat))
                        go_roundg k1
                        case measure => have := HK1.out; omega
                        case rel => exact ⟨(y438), (true), (wrap64 (x10_1 + 1)), (x423000_1), (x423001_1), ae, ae, H', ⟨by have := HK1.out; omega⟩, fwR HO440, fwK BK422, ⟨bbl⟩⟩
                      · replace c34 := Bool.eq_false_iff.mpr c34
                        subst c34
                        replace H := iF H
                        obtain ⟨t442, A38, H⟩ := bnd H
                        have H' := Sd.mk H
                        clear H
                        have p427 : 0 ≤ (x10_1 : Int) := ode
                        have q427 : x10_1 < (l2.length : Int) := ode
                        obtain ⟨ad427, e427, hx427_0, hx427_1, hx427_2⟩ := at_T39 HR2.out x10_1 p427 q427
                        cases e427
                        replace hx427_0 := hxc HB hx427_0
                        replace hx427_1 := hxc HB hx427_1
                        replace hx427_2 := hxc HB hx427_2
                        replace p427 := eq_true p427
                        replace q427 := eq_true q427
                        go_wp2_with (first | ((with_reducible refine gate_callee (f := 18) rfl ?_); refine goesL_ (some 36) rfl rfl Tryz.func18 (by kernel_rfl) rfl #[.agg #[.int .i64 ((rd_T39 l2 x10_1).f1.f0), .int .i64 ((rd_T39 l2 x10_1).f1.f1)]] rfl ma ?_; (with_reducible refine (r8_Is.calls ((rd_T39 l2 x10_1).f1.f0) ((rd_T39 l2 x10_1).f1.f1) true _ A18.out).mono ?_); rintro e w39 ⟨rfl, hb⟩; refine ⟨_, rfl, ?_⟩; replace HO_8 := brb HO_8 hb; replace BK422 := bkb BK422 hb; replace HB := bsq w hb; (try clear hb); have p435 : 0 ≤ (x10_1 : Int) := ode; have q435 : x10_1 < (l2.length : Int) := ode; obtain ⟨ad435, e435, hx435_0, hx435_1, hx435_2⟩ := at_T39 HR2.out x10_1 p435 q435; obtain rfl : ad427 = ad435 := (by injection e435); replace hx435_0 := hxc HB hx435_0; replace hx435_1 := hxc HB hx435_1; replace hx435_2 := hxc HB hx435_2; replace p435 := eq_true p435; replace q435 := eq_true q435) | (go_at_call 47; (with_reducible refine (r10_odd.calls ((rd_T39 l2 x10_1).f1.f0) ((rd_T39 l2 x10_1).f1.f1) false _ A29.out).mono ?_); rintro e w40 ⟨rfl, hb⟩; replace HO_8 := brb HO_8 hb; replace BK422 := bkb BK422 hb; replace HB := bsq w hb; (try clear hb); have p437 : 0 ≤ (x10_1 : Int) := ode; have q437 : x10_1 < (l2.length : Int) := ode; obtain ⟨ad437, e437, hx437_0, hx437_1, hx437_2⟩ := at_T39 HR2.out x10_1 p437 q437; obtain rfl : ad427 = ad437 := (by injection e437); replace hx437_0 := hxc HB hx437_0; replace hx437_1 := hxc HB hx437_1; replace hx437_2 := hxc HB hx437_2; replace p437 := eq_true p437; replace q437 := eq_true q437) | ((with_reducible refine gate_builtin (b := .append) (xs := #[.tmp 49, .tmp 54]) rfl ?_); at_builtin; refine Kd.R_append k39 (w0 := w) w.heap.size rfl (.tmp 49) (.tmp 54) 22 39 (.agg #[(.int .i64 0), (.int .i64 0), (.int .i64 0)]) 24 rfl Tryz.underlying22 info39 rfl (by decide) (by omega) u8 x8_1 (⟨(rd_T39 l2 x10_1).f0, (⟨(rd_T39 l2 x10_1).f1.f0, (rd_T39 l2 x10_1).f1.f1⟩ : S25)⟩ : S39) [.int .i64 ((rd_T39 l2 x10_1).f0), .int .i64 ((rd_T39 l2 x10_1).f1.f0), .int .i64 ((rd_T39 l2 x10_1).f1.f1)] (fun _ => True) (fun _ => False) rfl rfl ?aP (fun _ hk => hk.elim) ?aF ?aO ?aB ?aS ?aL ?_; (case aP => exact k39_mkM _ _ _ (⟨(rd_T39 l2 x10_1).f0, (⟨(rd_T39 l2 x10_1).f1.f0, (rd_T39 l2 x10_1).f1.f1⟩ : S25)⟩ : S39)); (case aB => exact bbl); (case aF => exact (fun _ _ => trivial)); (case aO => exact (by (repeat refine dR ?_); exact HO_8.out)); (case aS => exact (below_size bbl)); (case aL => have := LMc33.out; omega); intro v439 w41 ho hb hg hat; rw [← Ny438.out] at ho; have n0_ := Sd.mk (blk_grown (g := gb422) (o := .cells #[.int .i64 x423000_1, .int .i64 x423001_1] 25 (0, 0)) (by exact blkF BK422.out) hg (Kd.R_ne HO_8.out BK422.out (by decide))); have n1_ := Sd.mk (hb); have n2_ := Sd.mk (ho); clear BK422; clear HB; clear HO_8; have BK422 := n0_; have HB := n1_; have HO440 := n2_; clear n0_ n1_ n2_; clear ho hb hg hat; have p441 : 0 ≤ (x10_1 : Int) := ode; have q441 : x10_1 < (l2.length : Int) := ode; obtain ⟨ad441, e441, hx441_0, hx441_1, hx441_2⟩ := at_T39 HR2.out x10_1 p441 q441; obtain rfl : ad427 = ad441 := (by injection e441); replace hx441_0 := hxc HB hx441_0; replace hx441_1 := hxc HB hx441_1; replace hx441_2 := hxc HB hx441_2; replace p441 := eq_true p441; replace q441 := eq_true q441) | (go_at_call 47; (with_reducible refine (r10_odd.calls ((rd_T39 l2 x10_1).f1.f0) ((rd_T39 l2 x10_1).f1.f1) t442 _ A38.out).mono ?_); rintro e w42 ⟨rfl, hb⟩; replace HO440 := brb HO440 hb; replace BK422 := bkb BK422 hb; replace HB := bsq w hb; (try clear hb)))
                        go_roundg k1
                        case measure => have := HK1.out; omega
                        case rel => exact ⟨(y438), (t442), (wrap64 (x10_1 + 1)), (x423000_1), (x423001_1), ae, ae, H', ⟨by have := HK1.out; omega⟩, fwR HO440, fwK BK422, ⟨bbl⟩⟩
                    · rw [if_neg c33] at H
                      exact absurd H (by simp)
              · replace c19 := Bool.eq_false_iff.mpr c19
                subst c19
                replace H := iF H
                simp only [Option.some.injEq, Prod.mk.injEq] at H
                obtain ⟨rfl, rfl, rfl⟩ := H
                have p427 : 0 ≤ (x10_1 : Int) := ode
                have q427 : x10_1 < (l2.length : Int) := ode
                obtain ⟨ad427, e427, hx427_0, hx427_1, hx427_2⟩ := at_T39 HR2.out x10_1 p427 q427
                cases e427
                replace hx427_0 := hxc HB hx427_0
                replace hx427_1 := hxc HB hx427_1
                replace hx427_2 := hxc HB hx427_2
                replace p427 := eq_true p427
                replace q427 := eq_true q427
                go_wp2_with (first | ((with_reducible refine gate_callee (f := 18) rfl ?_); refine goesL_ (some 36) rfl rfl Tryz.func18 (by kernel_rfl) rfl #[.agg #[.int .i64 ((rd_T39 l2 x10_1).f1.f0), .int .i64 ((rd_T39 l2 x10_1).f1.f1)]] rfl ma ?_; (with_reducible refine (r8_Is.calls ((rd_T39 l2 x10_1).f1.f0) ((rd_T39 l2 x10_1).f1.f1) false _ A18.out).mono ?_); rintro e w43 ⟨rfl, hb⟩; refine ⟨_, rfl, ?_⟩; replace HO_8 := brb HO_8 hb; replace BK422 := bkb BK422 hb; replace HB := bsq w hb; (try clear hb); have hcz44_0 := bz0 BK422; have hcz44_1 := bz1 BK422; have hfz44_0 := blk_frozen BK422.out 0; have hfz44_1 := blk_frozen BK422.out 1))
                refine bodyPost_ret (results_ct rfl _ _ gb422 25 #[.int .i64 0, .int .i64 0] (0, 0) _ rfl (by (repeat refine dw ?_); refine blk_put (cs := #[.int .i64 0, .int .i64 x423001_1]) ?_ 1 _ rfl; (repeat refine dw ?_); refine blk_put (cs := #[.int .i64 x423000_1, .int .i64 x423001_1]) ?_ 0 _ rfl; (repeat refine dw ?_); exact BK422.out) Tryz.underlying25 rfl (by kernel_rfl)) rfl ?_
                exact ⟨fe, bbl⟩
            · rw [if_neg c17] at H
              exact absurd H (by simp)
          · rw [if_neg c16] at H
            have c16b0 : decide (x10_1 < (l2.length : Int)) = false := decide_eq_false c16
            clear c16
            by_cases c45 : a0.toList = ([99, 111, 117, 110, 116] : List UInt8)
            · rw [if_pos c45] at H
              have c45b0 : (a0.toList == ([99, 111, 117, 110, 116] : List UInt8)) = true := beq_iff_eq.mpr c45
              have c45b1 : (a0.toList != ([99, 111, 117, 110, 116] : List UInt8)) = false := bne_eq_false_iff_eq.mpr c45
              clear c45
              obtain ⟨⟨t443, t444⟩, A46, H⟩ := bnd H
              replace H : (some (t443, t444, 0)) = some (r1, r2, r3) := H
              simp only [Option.some.injEq, Prod.mk.injEq] at H
              obtain ⟨rfl, rfl, rfl⟩ := H
              obtain ⟨Ao47, co47, eo47⟩ := Kd.R_slice HO_8.out
              subst eo47
              go_wp2_with (first | ((with_reducible refine gate_callee (f := 27) rfl ?_); refine goesL_ (some 70) rfl rfl Tryz.func27 (by kernel_rfl) rfl #[.int .i64 (wrap64 (1000 * (x8_1.length : Int)))] rfl ma ?_; (with_reducible refine (r8_Num.calls (wrap64 (1000 * (x8_1.length : Int))) t443 t444 _ A46.out).mono ?_); rintro e w48 ⟨rfl, hb⟩; refine ⟨_, rfl, ?_⟩; replace HO_8 := brb HO_8 hb; replace BK422 := bkb BK422 hb; replace HB := bsq w hb; (try clear hb); have hcz49_0 := bz0 BK422; have hcz49_1 := bz1 BK422; have hfz49_0 := blk_frozen BK422.out 0; have hfz49_1 := blk_frozen BK422.out 1))
              refine bodyPost_ret (results_ct rfl _ _ gb422 25 #[.int .i64 t443, .int .i64 t444] (0, 0) _ rfl (by (repeat refine dw ?_); refine blk_put (cs := #[.int .i64 t443, .int .i64 x423001_1]) ?_ 1 _ rfl; (repeat refine dw ?_); refine blk_put (cs := #[.int .i64 x423000_1, .int .i64 x423001_1]) ?_ 0 _ rfl; (repeat refine dw ?_); exact BK422.out) Tryz.underlying25 rfl (by kernel_rfl)) rfl ?_
              exact ⟨fe, bbl⟩
            · rw [if_neg c45] at H
              have c45b0 : (a0.toList == ([99, 111, 117, 110, 116] : List UInt8)) = false := beq_eq_false_iff_ne.mpr c45
              have c45b1 : (a0.toList != ([99, 111, 117, 110, 116] : List UInt8)) = true := bne_iff_ne.mpr c45
              by_cases c50 : (x8_1.length : Int) = 0
              · rw [if_pos c50] at H
                have c50b0 : ((x8_1.length : Int) == 0) = true := beq_iff_eq.mpr c50
                have c50b1 : ((x8_1.length : Int) != 0) = false := bne_eq_false_iff_eq.mpr c50
                clear c50
                obtain ⟨⟨t445, t446⟩, A51, H⟩ := bnd H
                replace H : (some (t445, t446, 0)) = some (r1, r2, r3) := H
                simp only [Option.some.injEq, Prod.mk.injEq] at H
                obtain ⟨rfl, rfl, rfl⟩ := H
                obtain ⟨Ao52, co52, eo52⟩ := Kd.R_slice HO_8.out
                subst eo52
                go_wp2_with (first | ((with_reducible refine gate_callee (f := 28) rfl ?_); refine goesL_ (some 74) rfl rfl Tryz.func28 (by kernel_rfl) rfl #[] rfl ma ?_; (with_reducible refine (r8_Null.calls  t445 t446 _ A51.out).mono ?_); rintro e w53 ⟨rfl, hb⟩; refine ⟨_, rfl, ?_⟩; replace HO_8 := brb HO_8 hb; replace BK422 := bkb BK422 hb; replace HB := bsq w hb; (try clear hb); have hcz54_0 := bz0 BK422; have hcz54_1 := bz1 BK422; have hfz54_0 := blk_frozen BK422.out 0; have hfz54_1 := blk_frozen BK422.out 1))
                refine bodyPost_ret (results_ct rfl _ _ gb422 25 #[.int .i64 t445, .int .i64 t446] (0, 0) _ rfl (by (repeat refine dw ?_); refine blk_put (cs := #[.int .i64 t445, .int .i64 x423001_1]) ?_ 1 _ rfl; (repeat refine dw ?_); refine blk_put (cs := #[.int .i64 x423000_1, .int .i64 x423001_1]) ?_ 0 _ rfl; (repeat refine dw ?_); exact BK422.out) Tryz.underlying25 rfl (by kernel_rfl)) rfl ?_
                exact ⟨fe, bbl⟩
              · rw [if_neg c50] at H
                have c50b0 : ((x8_1.length : Int) == 0) = false := beq_eq_false_iff_ne.mpr c50
                have c50b1 : ((x8_1.length : Int) != 0) = true := bne_iff_ne.mpr c50
                have c50b2 : ¬ (x8_1 = []) := fun h_ => c50 (by rw [h_]; rfl)
                by_cases c55 : a0.toList = ([108, 97, 115, 116] : List UInt8)
                · rw [if_pos c55] at H
                  have c55b0 : (a0.toList == ([108, 97, 115, 116] : List UInt8)) = true := beq_iff_eq.mpr c55
                  have c55b1 : (a0.toList != ([108, 97, 115, 116] : List UInt8)) = false := bne_eq_false_iff_eq.mpr c55
                  clear c55
                  have H' := Sd.mk H
                  clear H
                  obtain ⟨Ao56, co56, eo56⟩ := Kd.R_slice HO_8.out
                  subst eo56
                  go_wp2
                  go_loopg [11, 12] k1 (fun kq v11 v12 w' => ∃ (x11_2 : Int) (x12_2 : Int), v11 = .int .i64 x11_2 ∧ v12 = .int .i64 x12_2 ∧ Sd (q10_Reduce.l1 kq x8_1 x11_2 x12_2 = some (r1, r2, r3)) ∧ Sd (kq ≤ k1) ∧ Sd (Kd.R k39 39 w' w.heap.size (fun _ => True) (.slice Ao56 x8_1.length co56) x8_1) ∧ Sd (w'.heap[gb422]? = some (.cells #[.int .i64 x423000_1, .int .i64 x423001_1] 25 (0, 0))) ∧ Sd (Below w.heap.size w w'))
                  case atStart => exact ⟨(0), (0), ae, ae, H', ⟨Nat.le_refl _⟩, fwR HO_8, fwK BK422, ⟨bbl⟩⟩
                  case round =>
                    clear H'
                    obtain ⟨x11_2, x12_2, rfl, rfl, HA, HK2, HO_8, BK422, HB⟩ := hrel
                    cases gk with
                    | zero => exact absurd HA.out (by simp [q10_Reduce.l1])
                    | succ k2 =>
                      have H := HA.out
                      clear HA
                      simp only [q10_Reduce.l1] at H
                      by_cases c57 : x12_2 < (x8_1.length : Int)
                      · rw [if_pos c57] at H
                        have c57b0 : decide (x12_2 < (x8_1.length : Int)) = true := decide_eq_true c57
                        clear c57
                        by_cases c58 : 0 ≤ x12_2
                        · rw [if_pos c58] at H
                          have c58b0 : decide (0 ≤ x12_2) = true := decide_eq_true c58
                          clear c58
                          by_cases c59 : 0 ≤ x11_2
                          · rw [if_pos c59] at H
                            have c59b0 : decide (0 ≤ x11_2) = true := decide_eq_true c59
                            clear c59
                            by_cases c60 : x11_2 < (x8_1.length : Int)
                            · rw [if_pos c60] at H
                              have c60b0 : decide (x11_2 < (x8_1.length : Int)) = true := decide_eq_true c60
                              clear c60
                              by_cases c61 : ((rd_T39 x8_1 x12_2).f0) ≥ ((rd_T39 x8_1 x11_2).f0)
                              · rw [if_pos c61] at H
                                have c61b0 : decide (((rd_T39 x8_1 x11_2).f0) ≤ ((rd_T39 x8_1 x12_2).f0)) = true := decide_eq_true c61
                                clear c61
                                have H' := Sd.mk H
                                clear H
                                try go_wp2
                                have n0_ := Sd.mk (Kd.R_drew HO_8.out)
                                have n1_ := Sd.mk (blk_drew BK422.out)
                                have n2_ := Sd.mk (bd1 HB.out)
                                clear HO_8 BK422 HB
                                have HO_8 := n0_
                                have BK422 := n1_
                                have HB := n2_
                                clear n0_ n1_ n2_
                                have p447 : 0 ≤ (x12_2 : Int) := ode
                                have q447 : x12_2 < (x8_1.length : Int) := ode
                                obtain ⟨ad447, e447, hx447_0, hx447_1, hx447_2⟩ := at_T39 (Kd.R_reads' HO_8.out).2.2 x12_2 p447 q447
                                cases e447
                                replace p447 := eq_true p447
                                replace q447 := eq_true q447
                                have p448 : 0 ≤ (x11_2 : Int) := ode
                                have q448 : x11_2 < (x8_1.length : Int) := ode
                                obtain ⟨ad448, e448, hx448_0, hx448_1, hx448_2⟩ := at_T39 (Kd.R_reads' HO_8.out).2.2 x11_2 p448 q448
                                obtain rfl : ad447 = ad448 := (by injection e448)
                                replace p448 := eq_true p448
                                replace q448 := eq_true q448
                                refine start_ (n := 11) (S := fun w' => w'.cell? (ad447.add ((x12_2).toNat * 3)) = some (.int .i64 ((rd_T39 x8_1 x12_2).f0)) ∧ w'.cell? ⟨(ad447.add ((x12_2).toNat * 3)).block, (ad447.add ((x12_2).toNat * 3)).off + 1, none⟩ = some (.int .i64 ((rd_T39 x8_1 x12_2).f1.f0)) ∧ w'.cell? ⟨(ad447.add ((x12_2).toNat * 3)).block, (ad447.add ((x12_2).toNat * 3)).off + 2, none⟩ = some (.int .i64 ((rd_T39 x8_1 x12_2).f1.f1)) ∧ w'.cell? (ad447.add ((x11_2).toNat * 3)) = some (.int .i64 ((rd_T39 x8_1 x11_2).f0)) ∧ w'.cell? ⟨(ad447.add ((x11_2).toNat * 3)).block, (ad447.add ((x11_2).toNat * 3)).off + 1, none⟩ = some (.int .i64 ((rd_T39 x8_1 x11_2).f1.f0)) ∧ w'.cell? ⟨(ad447.add ((x11_2).toNat * 3)).block, (ad447.add ((x11_2).toNat * 3)).off + 2, none⟩ = some (.int .i64 ((rd_T39 x8_1 x11_2).f1.f1))) (ds := []) #[false, false, false, false, false, false, false, false, false, false, false] (by kernel_rfl) rfl rfl ⟨hx447_0, hx447_1, hx447_2, hx448_0, hx448_1, hx448_2⟩ (fun hHeld => ?_); refine with_tabW q10_Reduce.tab24 q10_Reduce.bits24 (fun HT_ HW_ => ?_)
                                generalize wr.drew = w62 at HO_8 BK422 HB hx447_0 hx447_1 hx447_2 hx448_0 hx448_1 hx448_2 hHeld ⊢
                                refine pure_ (i := 0) (N := some 83) (v := ?_) (a' := ?_) #[true, false, false, false, false, false, false, false, false, false, false] rfl rfl (any_of HT_.out (by kernel_rfl)) (fun _ _ _ h => h) (Or.inl ⟨by rfl, ?_⟩) ?_ ?_
                                rotate_left
                                · intro w'
                                  go_simp
                                  with_reducible rfl
                                rotate_left
                                · simp only [Act.put, List.setIfInBounds_toArray, List.set_cons_zero, List.set_cons_succ, i64_w, i32_w]
                                  rfl
                                refine pure_ (i := 1) (N := some 84) (v := ?_) (a' := ?_) #[true, true, false, false, false, false, false, false, false, false, false] rfl rfl (any_of HT_.out (by kernel_rfl)) (fun _ _ _ h => h) (Or.inl ⟨by rfl, ?_⟩) ?_ ?_
                                rotate_left
                                · intro w'
                                  go_simp
                                  with_reducible rfl
                                rotate_left
                                · simp only [Act.put, List.setIfInBounds_toArray, List.set_cons_zero, List.set_cons_succ, i64_w, i32_w]
                                  rfl
                                refine pure_ (i := 2) (N := some 85) (v := ?_) (a' := ?_) #[true, true, true, false, false, false, false, false, false, false, false] rfl rfl (any_of HT_.out (by kernel_rfl)) (fun _ _ _ h => h) (Or.inl ⟨by rfl, ?_⟩) ?_ ?_
                                rotate_left
                                · intro w'
                                  go_simp
                                  with_reducible rfl
                                rotate_left
                                · simp only [Act.put, List.setIfInBounds_toArray, List.set_cons_zero, List.set_cons_succ, i64_w, i32_w]
                                  rfl
                                refine pure_ (i := 3) (N := some 86) (v := ?_) (a' := ?_) #[true, true, true, true, false, false, false, false, false, false, false] rfl rfl (any_of HT_.out (by kernel_rfl)) (fun _ _ _ h => h) (Or.inl ⟨by rfl, ?_⟩) ?_ ?_
                                rotate_left
                                · intro w'
                                  go_simp
                                  with_reducible rfl
                                rotate_left
                                · simp only [Act.put, List.setIfInBounds_toArray, List.set_cons_zero, List.set_cons_succ, i64_w, i32_w]
                                  rfl
                                refine pure_ (i := 5) (N := some 88) (v := ?_) (a' := ?_) #[true, true, true, true, false, true, false, false, false, false, false] rfl rfl (any_of HT_.out (by kernel_rfl)) (fun _ _ _ h => h) (Or.inl ⟨by rfl, ?_⟩) ?_ ?_
                                rotate_left
                                · intro w'
                                  go_simp
                                  with_reducible rfl
                                rotate_left
                                · simp only [Act.put, List.setIfInBounds_toArray, List.set_cons_zero, List.set_cons_succ, i64_w, i32_w]
                                  rfl
                                refine pure_ (i := 6) (N := some 89) (v := ?_) (a' := ?_) #[true, true, true, true, false, true, true, false, false, false, false] rfl rfl (any_of HT_.out (by kernel_rfl)) (fun _ _ _ h => h) (Or.inl ⟨by rfl, ?_⟩) ?_ ?_
                                rotate_left
                                · intro w'
                                  go_simp
                                  with_reducible rfl
                                rotate_left
                                · simp only [Act.put, List.setIfInBounds_toArray, List.set_cons_zero, List.set_cons_succ, i64_w, i32_w]
                                  rfl
                                refine pure_ (i := 7) (N := some 90) (v := ?_) (a' := ?_) #[true, true, true, true, false, true, true, true, false, false, false] rfl rfl (any_of HT_.out (by kernel_rfl)) (fun _ _ _ h => h) (Or.inl ⟨by rfl, ?_⟩) ?_ ?_
                                rotate_left
                                · intro w'
                                  go_simp
                                  with_reducible rfl
                                rotate_left
                                · simp only [Act.put, List.setIfInBounds_toArray, List.set_cons_zero, List.set_cons_succ, i64_w, i32_w]
                                  rfl
                                refine pure_ (i := 8) (N := some 91) (v := ?_) (a' := ?_) #[true, true, true, true, false, true, true, true, true, false, false] rfl rfl (any_of HT_.out (by kernel_rfl)) (fun _ _ _ h => h) (Or.inl ⟨by rfl, ?_⟩) ?_ ?_
                                rotate_left
                                · intro w'
                                  go_simp
                                  with_reducible rfl
                                rotate_left
                                · simp only [Act.put, List.setIfInBounds_toArray, List.set_cons_zero, List.set_cons_succ, i64_w, i32_w]
                                  rfl
                                refine take_ (i := 4) (N := some 87) (v := ?_) (a' := ?_) #[true, true, true, true, true, true, true, true, true, false, false] rfl rfl (take_ofW HT_.out HW_.out (by kernel_rfl)) (fun _ _ _ h => h) (Or.inl ⟨by rfl, ?_⟩) hHeld ?_ ?_
                                rotate_left
                                · rintro w' ⟨s0, s1, s2, s3, s4, s5⟩
                                  go_simp
                                  with_reducible rfl
                                rotate_left
                                · simp only [Act.put, List.setIfInBounds_toArray, List.set_cons_zero, List.set_cons_succ, i64_w, i32_w]
                                  rfl
                                refine take_ (i := 9) (N := some 92) (v := ?_) (a' := ?_) #[true, true, true, true, true, true, true, true, true, true, false] rfl rfl (take_ofW HT_.out HW_.out (by kernel_rfl)) (fun _ _ _ h => h) (Or.inl ⟨by rfl, ?_⟩) hHeld ?_ ?_
                                rotate_left
                                · rintro w' ⟨s0, s1, s2, s3, s4, s5⟩
                                  go_simp
                                  with_reducible rfl
                                rotate_left
                                · simp only [Act.put, List.setIfInBounds_toArray, List.set_cons_zero, List.set_cons_succ, i64_w, i32_w]
                                  rfl
                                refine pure_ (i := 10) (N := some 93) (v := ?_) (a' := ?_) #[true, true, true, true, true, true, true, true, true, true, true] rfl rfl (any_of HT_.out (by kernel_rfl)) (fun _ _ _ h => h) (Or.inl ⟨by rfl, ?_⟩) ?_ ?_
                                rotate_left
                                · intro w'
                                  go_simp
                                  with_reducible rfl
                                rotate_left
                                · simp only [Act.put, List.setIfInBounds_toArray, List.set_cons_zero, List.set_cons_succ, i64_w, i32_w]
                                  rfl
                                refine done_ (done_of HT_.out (by kernel_rfl)) ?_
                                try go_wp2
                                go_roundg k2
                                case measure => have := HK1.out; have := HK2.out; omega
                                case rel => exact ⟨(x12_2), (wrap64 (x12_2 + 1)), ae, ae, H', ⟨by have := HK1.out; have := HK2.out; omega⟩, fwR HO_8, fwK BK422, ⟨bbl⟩⟩
                              · rw [if_neg c61] at H
                                have c61b0 : decide (((rd_T39 x8_1 x11_2).f0) ≤ ((rd_T39 x8_1 x12_2).f0)) = false := decide_eq_false c61
                                clear c61
                                have H' := Sd.mk H
                                clear H
                                try go_wp2
                                have n0_ := Sd.mk (Kd.R_drew HO_8.out)
                                have n1_ := Sd.mk (blk_drew BK422.out)
                                have n2_ := Sd.mk (bd1 HB.out)
                                clear HO_8 BK422 HB
                                have HO_8 := n0_
                                have BK422 := n1_
                                have HB := n2_
                                clear n0_ n1_ n2_
                                have p447 : 0 ≤ (x12_2 : Int) := ode
                                have q447 : x12_2 < (x8_1.length : Int) := ode
                                obtain ⟨ad447, e447, hx447_0, hx447_1, hx447_2⟩ := at_T39 (Kd.R_reads' HO_8.out).2.2 x12_2 p447 q447
                                cases e447
                                replace p447 := eq_true p447
                                replace q447 := eq_true q447
                                have p448 : 0 ≤ (x11_2 : Int) := ode
                                have q448 : x11_2 < (x8_1.length : Int) := ode
                                obtain ⟨ad448, e448, hx448_0, hx448_1, hx448_2⟩ := at_T39 (Kd.R_reads' HO_8.out).2.2 x11_2 p448 q448
                                obtain rfl : ad447 = ad448 := (by injection e448)
                                replace p448 := eq_true p448
                                replace q448 := eq_true q448
                                refine start_ (n := 11) (S := fun w' => w'.cell? (ad447.add ((x12_2).toNat * 3)) = some (.int .i64 ((rd_T39 x8_1 x12_2).f0)) ∧ w'.cell? ⟨(ad447.add ((x12_2).toNat * 3)).block, (ad447.add ((x12_2).toNat * 3)).off + 1, none⟩ = some (.int .i64 ((rd_T39 x8_1 x12_2).f1.f0)) ∧ w'.cell? ⟨(ad447.add ((x12_2).toNat * 3)).block, (ad447.add ((x12_2).toNat * 3)).off + 2, none⟩ = some (.int .i64 ((rd_T39 x8_1 x12_2).f1.f1)) ∧ w'.cell? (ad447.add ((x11_2).toNat * 3)) = some (.int .i64 ((rd_T39 x8_1 x11_2).f0)) ∧ w'.cell? ⟨(ad447.add ((x11_2).toNat * 3)).block, (ad447.add ((x11_2).toNat * 3)).off + 1, none⟩ = some (.int .i64 ((rd_T39 x8_1 x11_2).f1.f0)) ∧ w'.cell? ⟨(ad447.add ((x11_2).toNat * 3)).block, (ad447.add ((x11_2).toNat * 3)).off + 2, none⟩ = some (.int .i64 ((rd_T39 x8_1 x11_2).f1.f1))) (ds := []) #[false, false, false, false, false, false, false, false, false, false, false] (by kernel_rfl) rfl rfl ⟨hx447_0, hx447_1, hx447_2, hx448_0, hx448_1, hx448_2⟩ (fun hHeld => ?_); refine with_tabW q10_Reduce.tab24 q10_Reduce.bits24 (fun HT_ HW_ => ?_)
                                generalize wr.drew = w63 at HO_8 BK422 HB hx447_0 hx447_1 hx447_2 hx448_0 hx448_1 hx448_2 hHeld ⊢
                                refine pure_ (i := 0) (N := some 83) (v := ?_) (a' := ?_) #[true, false, false, false, false, false, false, false, false, false, false] rfl rfl (any_of HT_.out (by kernel_rfl)) (fun _ _ _ h => h) (Or.inl ⟨by rfl, ?_⟩) ?_ ?_
                                rotate_left
                                · intro w'
                                  go_simp
                                  with_reducible rfl
                                rotate_left
                                · simp only [Act.put, List.setIfInBounds_toArray, List.set_cons_zero, List.set_cons_succ, i64_w, i32_w]
                                  rfl
                                refine pure_ (i := 1) (N := some 84) (v := ?_) (a' := ?_) #[true, true, false, false, false, false, false, false, false, false, false] rfl rfl (any_of HT_.out (by kernel_rfl)) (fun _ _ _ h => h) (Or.inl ⟨by rfl, ?_⟩) ?_ ?_
                                rotate_left
                                · intro w'
                                  go_simp
                                  with_reducible rfl
                                rotate_left
                                · simp only [Act.put, List.setIfInBounds_toArray, List.set_cons_zero, List.set_cons_succ, i64_w, i32_w]
                                  rfl
                                refine pure_ (i := 2) (N := some 85) (v := ?_) (a' := ?_) #[true, true, true, false, false, false, false, false, false, false, false] rfl rfl (any_of HT_.out (by kernel_rfl)) (fun _ _ _ h => h) (Or.inl ⟨by rfl, ?_⟩) ?_ ?_
                                rotate_left
                                · intro w'
                                  go_simp
                                  with_reducible rfl
                                rotate_left
                                · simp only [Act.put, List.setIfInBounds_toArray, List.set_cons_zero, List.set_cons_succ, i64_w, i32_w]
                                  rfl
                                refine pure_ (i := 3) (N := some 86) (v := ?_) (a' := ?_) #[true, true, true, true, false, false, false, false, false, false, false] rfl rfl (any_of HT_.out (by kernel_rfl)) (fun _ _ _ h => h) (Or.inl ⟨by rfl, ?_⟩) ?_ ?_
                                rotate_left
                                · intro w'
                                  go_simp
                                  with_reducible rfl
                                rotate_left
                                · simp only [Act.put, List.setIfInBounds_toArray, List.set_cons_zero, List.set_cons_succ, i64_w, i32_w]
                                  rfl
                                refine pure_ (i := 5) (N := some 88) (v := ?_) (a' := ?_) #[true, true, true, true, false, true, false, false, false, false, false] rfl rfl (any_of HT_.out (by kernel_rfl)) (fun _ _ _ h => h) (Or.inl ⟨by rfl, ?_⟩) ?_ ?_
                                rotate_left
                                · intro w'
                                  go_simp
                                  with_reducible rfl
                                rotate_left
                                · simp only [Act.put, List.setIfInBounds_toArray, List.set_cons_zero, List.set_cons_succ, i64_w, i32_w]
                                  rfl
                                refine pure_ (i := 6) (N := some 89) (v := ?_) (a' := ?_) #[true, true, true, true, false, true, true, false, false, false, false] rfl rfl (any_of HT_.out (by kernel_rfl)) (fun _ _ _ h => h) (Or.inl ⟨by rfl, ?_⟩) ?_ ?_
                                rotate_left
                                · intro w'
                                  go_simp
                                  with_reducible rfl
                                rotate_left
                                · simp only [Act.put, List.setIfInBounds_toArray, List.set_cons_zero, List.set_cons_succ, i64_w, i32_w]
                                  rfl
                                refine pure_ (i := 7) (N := some 90) (v := ?_) (a' := ?_) #[true, true, true, true, false, true, true, true, false, false, false] rfl rfl (any_of HT_.out (by kernel_rfl)) (fun _ _ _ h => h) (Or.inl ⟨by rfl, ?_⟩) ?_ ?_
                                rotate_left
                                · intro w'
                                  go_simp
                                  with_reducible rfl
                                rotate_left
                                · simp only [Act.put, List.setIfInBounds_toArray, List.set_cons_zero, List.set_cons_succ, i64_w, i32_w]
                                  rfl
                                refine pure_ (i := 8) (N := some 91) (v := ?_) (a' := ?_) #[true, true, true, true, false, true, true, true, true, false, false] rfl rfl (any_of HT_.out (by kernel_rfl)) (fun _ _ _ h => h) (Or.inl ⟨by rfl, ?_⟩) ?_ ?_
                                rotate_left
                                · intro w'
                                  go_simp
                                  with_reducible rfl
                                rotate_left
                                · simp only [Act.put, List.setIfInBounds_toArray, List.set_cons_zero, List.set_cons_succ, i64_w, i32_w]
                                  rfl
                                refine take_ (i := 4) (N := some 87) (v := ?_) (a' := ?_) #[true, true, true, true, true, true, true, true, true, false, false] rfl rfl (take_ofW HT_.out HW_.out (by kernel_rfl)) (fun _ _ _ h => h) (Or.inl ⟨by rfl, ?_⟩) hHeld ?_ ?_
                                rotate_left
                                · rintro w' ⟨s0, s1, s2, s3, s4, s5⟩
                                  go_simp
                                  with_reducible rfl
                                rotate_left
                                · simp only [Act.put, List.setIfInBounds_toArray, List.set_cons_zero, List.set_cons_succ, i64_w, i32_w]
                                  rfl
                                refine take_ (i := 9) (N := some 92) (v := ?_) (a' := ?_) #[true, true, true, true, true, true, true, true, true, true, false] rfl rfl (take_ofW HT_.out HW_.out (by kernel_rfl)) (fun _ _ _ h => h) (Or.inl ⟨by rfl, ?_⟩) hHeld ?_ ?_
                                rotate_left
                                · rintro w' ⟨s0, s1, s2, s3, s4, s5⟩
                                  go_simp
                                  with_reducible rfl
                                rotate_left
                                · simp only [Act.put, List.setIfInBounds_toArray, List.set_cons_zero, List.set_cons_succ, i64_w, i32_w]
                                  rfl
                                refine pure_ (i := 10) (N := some 93) (v := ?_) (a' := ?_) #[true, true, true, true, true, true, true, true, true, true, true] rfl rfl (any_of HT_.out (by kernel_rfl)) (fun _ _ _ h => h) (Or.inl ⟨by rfl, ?_⟩) ?_ ?_
                                rotate_left
                                · intro w'
                                  go_simp
                                  with_reducible rfl
                                rotate_left
                                · simp only [Act.put, List.setIfInBounds_toArray, List.set_cons_zero, List.set_cons_succ, i64_w, i32_w]
                                  rfl
                                refine done_ (done_of HT_.out (by kernel_rfl)) ?_
                                try go_wp2
                                go_roundg k2
                                case measure => have := HK1.out; have := HK2.out; omega
                                case rel => exact ⟨(x11_2), (wrap64 (x12_2 + 1)), ae, ae, H', ⟨by have := HK1.out; have := HK2.out; omega⟩, fwR HO_8, fwK BK422, ⟨bbl⟩⟩
                            · rw [if_neg c60] at H
                              exact absurd H (by simp)
                          · rw [if_neg c59] at H
                            exact absurd H (by simp)
                        · rw [if_neg c58] at H
                          exact absurd H (by simp)
                      · rw [if_neg c57] at H
                        have c57b0 : decide (x12_2 < (x8_1.length : Int)) = false := decide_eq_false c57
                        clear c57
                        by_cases c64 : 0 ≤ x11_2
                        · rw [if_pos c64] at H
                          have c64b0 : decide (0 ≤ x11_2) = true := decide_eq_true c64
                          clear c64
                          by_cases c65 : x11_2 < (x8_1.length : Int)
                          · rw [if_pos c65] at H
                            have c65b0 : decide (x11_2 < (x8_1.length : Int)) = true := decide_eq_true c65
                            clear c65
                            simp only [Option.some.injEq, Prod.mk.injEq] at H
                            obtain ⟨rfl, rfl, rfl⟩ := H
                            have p449 : 0 ≤ (x11_2 : Int) := ode
                            have q449 : x11_2 < (x8_1.length : Int) := ode
                            obtain ⟨ad449, e449, hx449_0, hx449_1, hx449_2⟩ := at_T39 (Kd.R_reads' HO_8.out).2.2 x11_2 p449 q449
                            cases e449
                            replace p449 := eq_true p449
                            replace q449 := eq_true q449
                            obtain ⟨hcz66_0, hcz66_1, hfz66_0, hfz66_1⟩ := bz BK422
                            go_wp2
                            refine bodyPost_ret (results_ct rfl _ _ gb422 25 #[.int .i64 ((rd_T39 x8_1 x11_2).f1.f0), .int .i64 ((rd_T39 x8_1 x11_2).f1.f1)] (0, 0) _ rfl (by (repeat refine dw ?_); refine blk_put (cs := #[.int .i64 ((rd_T39 x8_1 x11_2).f1.f0), .int .i64 x423001_1]) ?_ 1 _ rfl; (repeat refine dw ?_); refine blk_put (cs := #[.int .i64 x423000_1, .int .i64 x423001_1]) ?_ 0 _ rfl; (repeat refine dw ?_); exact BK422.out) Tryz.underlying25 rfl (by kernel_rfl)) rfl ?_
                            exact ⟨fe, bbl⟩
                          · rw [if_neg c65] at H
                            exact absurd H (by simp)
                        · rw [if_neg c64] at H
                          exact absurd H (by simp)
                · rw [if_neg c55] at H
                  have c55b0 : (a0.toList == ([108, 97, 115, 116] : List UInt8)) = false := beq_eq_false_iff_ne.mpr c55
                  have c55b1 : (a0.toList != ([108, 97, 115, 116] : List UInt8)) = true := bne_iff_ne.mpr c55
                  by_cases c67 : x9_1 = true
                  · subst c67
                    replace H := iT H
                    obtain ⟨⟨t450, t451⟩, A68, H⟩ := bnd H
                    replace H : (some (t450, t451, 0)) = some (r1, r2, r3) := H
                    simp only [Option.some.injEq, Prod.mk.injEq] at H
                    obtain ⟨rfl, rfl, rfl⟩ := H
                    obtain ⟨Ao69, co69, eo69⟩ := Kd.R_slice HO_8.out
                    subst eo69
                    go_wp2_with (first | ((with_reducible refine gate_callee (f := 29) rfl ?_); refine goesL_ (some 101) rfl rfl Tryz.func29 (by kernel_rfl) rfl #[] rfl ma ?_; (with_reducible refine (r8_NaN.calls  t450 t451 _ A68.out).mono ?_); rintro e w70 ⟨rfl, hb⟩; refine ⟨_, rfl, ?_⟩; replace HO_8 := brb HO_8 hb; replace BK422 := bkb BK422 hb; replace HB := bsq w hb; (try clear hb); have hcz71_0 := bz0 BK422; have hcz71_1 := bz1 BK422; have hfz71_0 := blk_frozen BK422.out 0; have hfz71_1 := blk_frozen BK422.out 1))
                    refine bodyPost_ret (results_ct rfl _ _ gb422 25 #[.int .i64 t450, .int .i64 t451] (0, 0) _ rfl (by (repeat refine dw ?_); refine blk_put (cs := #[.int .i64 t450, .int .i64 x423001_1]) ?_ 1 _ rfl; (repeat refine dw ?_); refine blk_put (cs := #[.int .i64 x423000_1, .int .i64 x423001_1]) ?_ 0 _ rfl; (repeat refine dw ?_); exact BK422.out) Tryz.underlying25 rfl (by kernel_rfl)) rfl ?_
                    exact ⟨fe, bbl⟩
                  · replace c67 := Bool.eq_false_iff.mpr c67
                    subst c67
                    replace H := iF H
                    by_cases c72 : 0 < (x8_1.length : Int)
                    · rw [if_pos c72] at H
                      have c72b0 : decide (0 < (x8_1.length : Int)) = true := decide_eq_true c72
                      have c72b1 : decide (0 < x8_1.length) = true := decide_eq_true (by omega)
                      clear c72
                      have H' := Sd.mk H
                      clear H
                      obtain ⟨Ao73, co73, eo73⟩ := Kd.R_slice HO_8.out
                      subst eo73
                      have p452 : 0 ≤ (0 : Int) := (by omega)
                      have q452 : 0 < (x8_1.length : Int) := ode
                      obtain ⟨ad452, e452, hx452_0, hx452_1, hx452_2⟩ := at_T39 (Kd.R_reads' HO_8.out).2.2 0 p452 q452
                      cases e452
                      have qi452 : (0 < x8_1.length) = True := eq_true (by omega)
                      (try rw [show ((0 : Int)).toNat = 0 from rfl] at hx452_0)
                      (try rw [show 0 * 3 = 0 from rfl] at hx452_0)
                      (try rw [Addr.add_zero'] at hx452_0)
                      (try rw [show ((0 : Int)).toNat = 0 from rfl] at hx452_1)
                      (try rw [show 0 * 3 = 0 from rfl] at hx452_1)
                      (try rw [Addr.add_zero'] at hx452_1)
                      (try rw [show ((0 : Int)).toNat = 0 from rfl] at hx452_2)
                      (try rw [show 0 * 3 = 0 from rfl] at hx452_2)
                      (try rw [Addr.add_zero'] at hx452_2)
                      replace p452 := eq_true p452
                      replace q452 := eq_true q452
                      go_wp2_with (first | ((with_reducible refine gate_dst (N := 13) rfl ?_); refine bxe (N := 13) (cs := #[.int .i64 0, .int .i64 0]) (t := 25) ?_; intro gb453 hg w74 hbox hb; have BK453 := Sd.mk hbox; have GW453 := bge w hg; have GE453 := bge w hg; have NB422_453 := bnl BK422 hg; have NB453_422 := bng BK422 hg; replace HO_8 := brb HO_8 hb; replace BK422 := bkb BK422 hb; replace HB := bsq w hb; clear hb hbox hg; have hnb75 := NB453_422.out; have hnc75 := NB422_453.out; have hcz76_0 := bz0 BK453; have hcz76_1 := bz1 BK453; have hfz76_0 := blk_frozen BK453.out 0; have hfz76_1 := blk_frozen BK453.out 1))
                      go_loopg [14] k1 (fun kq v14 w' => ∃ (x14_2 : Int) (x454000_2 : Int) (x454001_2 : Int), v14 = .int .i64 x14_2 ∧ Sd (q10_Reduce.l2 kq a0 x8_1 x14_2 x454000_2 x454001_2 = some (r1, r2, r3)) ∧ Sd (kq ≤ k1) ∧ Sd (Kd.R k39 39 w' w.heap.size (fun _ => True) (.slice (some ad452) x8_1.length co73) x8_1) ∧ Sd (w'.heap[gb422]? = some (.cells #[.int .i64 x423000_1, .int .i64 x423001_1] 25 (0, 0))) ∧ Sd (w'.heap[gb453]? = some (.cells #[.int .i64 x454000_2, .int .i64 x454001_2] 25 (0, 0))) ∧ Sd (Below w.heap.size w w'))
                      case atStart => exact ⟨(1), ((rd_T39 x8_1 0).f1.f0), ((rd_T39 x8_1 0).f1.f1), ae, H', ⟨Nat.le_refl _⟩, ⟨by (repeat refine dR ?_); exact Kd.R_mono (Kd.R_far (p := ⟨gb453, 1, none⟩) (Kd.R_far (p := ⟨gb453, 0, none⟩) (Kd.R_types HO_8.out BK453.out (by decide)) (fun _ hk => hk.2) (.int .i64 ((rd_T39 x8_1 0).f1.f0))) (fun _ hk => hk.2) (.int .i64 ((rd_T39 x8_1 0).f1.f1))) (fun _ hk => trivial)⟩, ⟨by (repeat refine dw ?_); refine blk_far ?_ NB422_453.out _; (repeat refine dw ?_); refine blk_far ?_ NB422_453.out _; (repeat refine dw ?_); exact BK422.out⟩, ⟨by (repeat refine dw ?_); refine blk_put (cs := #[.int .i64 ((rd_T39 x8_1 0).f1.f0), .int .i64 0]) ?_ 1 _ rfl; (repeat refine dw ?_); refine blk_put (cs := #[.int .i64 0, .int .i64 0]) ?_ 0 _ rfl; (repeat refine dw ?_); exact BK453.out⟩, ⟨bbl⟩⟩
                      case round =>
                        clear H'
                        obtain ⟨x14_2, x454000_2, x454001_2, rfl, HA, HK2, HO_8, BK422, BK453, HB⟩ := hrel
                        cases gk with
                        | zero => exact absurd HA.out (by simp [q10_Reduce.l2])
                        | succ k2 =>
                          have H := HA.out
                          clear HA
                          simp only [q10_Reduce.l2] at H
                          by_cases c77 : x14_2 < (x8_1.length : Int)
                          · rw [if_pos c77] at H
                            have c77b0 : decide (x14_2 < (x8_1.length : Int)) = true := decide_eq_true c77
                            clear c77
                            by_cases c78 : 0 ≤ x14_2
                            · rw [if_pos c78] at H
                              have c78b0 : decide (0 ≤ x14_2) = true := decide_eq_true c78
                              clear c78
                              have HC79 := Sd.mk H
                              clear H
                              have p454 : 0 ≤ (x14_2 : Int) := ode
                              have q454 : x14_2 < (x8_1.length : Int) := ode
                              obtain ⟨ad454, e454, hx454_0, hx454_1, hx454_2⟩ := at_T39 (Kd.R_reads' HO_8.out).2.2 x14_2 p454 q454
                              obtain rfl : ad452 = ad454 := (by injection e454)
                              replace p454 := eq_true p454
                              replace q454 := eq_true q454
                              go_upto_region 34 with (first | ((with_reducible refine gate_dst (N := 15) rfl ?_); refine bxe (N := 15) (cs := #[.int .i64 0, .int .i64 0]) (t := 25) ?_; intro gb455 hg w80 hbox hb; have BK455 := Sd.mk hbox; have GW455 := bge w hg; have GE455 := bge w hg; have NB422_455 := bnl BK422 hg; have NB455_422 := bng BK422 hg; have NB453_455 := bnl BK453 hg; have NB455_453 := bng BK453 hg; replace HO_8 := brb HO_8 hb; replace BK422 := bkb BK422 hb; replace BK453 := bkb BK453 hb; replace HB := bsq w hb; clear hb hbox hg; have hnb81 := NB455_422.out; have hnc81 := NB422_455.out; have hnb82 := NB455_453.out; have hnc82 := NB453_455.out; have hcz83_0 := bz0 BK455; have hcz83_1 := bz1 BK455; have hfz83_0 := blk_frozen BK455.out 0; have hfz83_1 := blk_frozen BK455.out 1))
                              (try simp only [Act.put, List.setIfInBounds_toArray, List.set_cons_zero, List.set_cons_succ])
                              go_cut [117] (fun v117 wc => ∃ (kq : Nat) (x117_78 : Bool), v117 = .bool x117_78 ∧ Sd (q10_Reduce.j3 kq a0 x8_1 x14_2 x117_78 x454000_2 x454001_2 ((rd_T39 x8_1 x14_2).f1.f0) ((rd_T39 x8_1 x14_2).f1.f1) = some (r1, r2, r3)) ∧ Sd (kq ≤ k2) ∧ Sd (Kd.R k39 39 wc w.heap.size (fun _ => True) (.slice (some ad452) x8_1.length co73) x8_1) ∧ Sd (wc.heap[gb422]? = some (.cells #[.int .i64 x423000_1, .int .i64 x423001_1] 25 (0, 0))) ∧ Sd (wc.heap[gb453]? = some (.cells #[.int .i64 x454000_2, .int .i64 x454001_2] 25 (0, 0))) ∧ Sd (wc.heap[gb455]? = some (.cells #[.int .i64 ((rd_T39 x8_1 x14_2).f1.f0), .int .i64 ((rd_T39 x8_1 x14_2).f1.f1)] 25 (0, 0))) ∧ Sd (Below w.heap.size w wc))
                              case first =>
                                have H := HC79.out
                                clear HC79
                                by_cases c84 : a0.toList = ([109, 105, 110] : List UInt8)
                                · rw [if_pos c84] at H
                                  have c84b0 : (a0.toList == ([109, 105, 110] : List UInt8)) = true := beq_iff_eq.mpr c84
                                  have c84b1 : (a0.toList != ([109, 105, 110] : List UInt8)) = false := bne_eq_false_iff_eq.mpr c84
                                  clear c84
                                  (first | rw [c84b0] | (simp only [i64_w, i32_w]; rw [c84b0]) | skip)
                                  obtain ⟨t456, A85, H⟩ := bnd H
                                  by_cases c86 : t456 = true
                                  · subst c86
                                    replace H := iT H
                                    have H' := Sd.mk H
                                    clear H
                                    have hnb87 := NB455_422.out
                                    have hnc87 := NB422_455.out
                                    have hnb88 := NB455_453.out
                                    have hnc88 := NB453_455.out
                                    obtain ⟨hcz89_0, hcz89_1, hfz89_0, hfz89_1⟩ := bz BK455
                                    have hnb90 := NB453_422.out
                                    have hnc90 := NB422_453.out
                                    obtain ⟨hcz91_0, hcz91_1, hfz91_0, hfz91_1⟩ := bz BK453
                                    go_wp2_with (first | (go_at_call 48; (with_reducible refine (r8_Less.calls k2 ((rd_T39 x8_1 x14_2).f1.f0) ((rd_T39 x8_1 x14_2).f1.f1) x454000_2 x454001_2 true _ A85.out).mono ?_); rintro e w92 ⟨rfl, hb⟩; have n0_ := Sd.mk (Kd.R_below (by (repeat refine dR ?_); exact (Kd.R_mono (Kd.R_far (p := ⟨gb455, 1, none⟩) (Kd.R_far (p := ⟨gb455, 0, none⟩) (Kd.R_types HO_8.out BK455.out (by decide)) (fun _ hk => hk.2) (.int .i64 ((rd_T39 x8_1 x14_2).f1.f0))) (fun _ hk => hk.2) (.int .i64 ((rd_T39 x8_1 x14_2).f1.f1))) (fun _ h_ => h_.1))) hb); have n1_ := Sd.mk (blk_below (g := gb422) (o := .cells #[.int .i64 x423000_1, .int .i64 x423001_1] 25 (0, 0)) (by (repeat refine dw ?_); refine blk_far ?_ NB422_455.out _; (repeat refine dw ?_); refine blk_far ?_ NB422_455.out _; (repeat refine dw ?_); exact BK422.out) hb); have n2_ := Sd.mk (blk_below (g := gb453) (o := .cells #[.int .i64 x454000_2, .int .i64 x454001_2] 25 (0, 0)) (by (repeat refine dw ?_); refine blk_far ?_ NB453_455.out _; (repeat refine dw ?_); refine blk_far ?_ NB453_455.out _; (repeat refine dw ?_); exact BK453.out) hb); have n3_ := Sd.mk (blk_below (g := gb455) (o := .cells #[.int .i64 ((rd_T39 x8_1 x14_2).f1.f0), .int .i64 ((rd_T39 x8_1 x14_2).f1.f1)] 25 (0, 0)) (by (repeat refine dw ?_); refine blk_put (cs := #[.int .i64 ((rd_T39 x8_1 x14_2).f1.f0), .int .i64 0]) ?_ 1 _ rfl; (repeat refine dw ?_); refine blk_put (cs := #[.int .i64 0, .int .i64 0]) ?_ 0 _ rfl; (repeat refine dw ?_); exact BK455.out) hb); have n4_ := bsq w hb; clear HO_8; clear BK422; clear BK453; clear BK455; clear HB; have HO_8 := n0_; have BK422 := n1_; have BK453 := n2_; have BK455 := n3_; have HB := n4_; clear n0_ n1_ n2_ n3_ n4_; (try clear hb)))
                                    go_meet
                                    case rel => exact ⟨_, (true), ae, H', ⟨by have := HK1.out; have := HK2.out; first | omega | exact Nat.le_refl _⟩, fwR HO_8, fwK BK422, fwK BK453, fwK BK455, ⟨bbl⟩⟩
                                  · replace c86 := Bool.eq_false_iff.mpr c86
                                    subst c86
                                    replace H := iF H
                                    by_cases c93 : a0.toList = ([109, 97, 120] : List UInt8)
                                    · rw [if_pos c93] at H
                                      have c93b0 : (a0.toList == ([109, 97, 120] : List UInt8)) = true := beq_iff_eq.mpr c93
                                      have c93b1 : (a0.toList != ([109, 97, 120] : List UInt8)) = false := bne_eq_false_iff_eq.mpr c93
                                      clear c93
                                      obtain ⟨t457, A94, H⟩ := bnd H
                                      have H' := Sd.mk H
                                      clear H
                                      have hnb95 := NB455_422.out
                                      have hnc95 := NB422_455.out
                                      have hnb96 := NB455_453.out
                                      have hnc96 := NB453_455.out
                                      obtain ⟨hcz97_0, hcz97_1, hfz97_0, hfz97_1⟩ := bz BK455
                                      have hnb98 := NB453_422.out
                                      have hnc98 := NB422_453.out
                                      obtain ⟨hcz99_0, hcz99_1, hfz99_0, hfz99_1⟩ := bz BK453
                                      go_wp2_with (first | (go_at_call 48; (with_reducible refine (r8_Less.calls k2 ((rd_T39 x8_1 x14_2).f1.f0) ((rd_T39 x8_1 x14_2).f1.f1) x454000_2 x454001_2 false _ A85.out).mono ?_); rintro e w100 ⟨rfl, hb⟩; have n0_ := Sd.mk (Kd.R_below (by (repeat refine dR ?_); exact (Kd.R_mono (Kd.R_far (p := ⟨gb455, 1, none⟩) (Kd.R_far (p := ⟨gb455, 0, none⟩) (Kd.R_types HO_8.out BK455.out (by decide)) (fun _ hk => hk.2) (.int .i64 ((rd_T39 x8_1 x14_2).f1.f0))) (fun _ hk => hk.2) (.int .i64 ((rd_T39 x8_1 x14_2).f1.f1))) (fun _ h_ => h_.1))) hb); have n1_ := Sd.mk (blk_below (g := gb422) (o := .cells #[.int .i64 x423000_1, .int .i64 x423001_1] 25 (0, 0)) (by (repeat refine dw ?_); refine blk_far ?_ NB422_455.out _; (repeat refine dw ?_); refine blk_far ?_ NB422_455.out _; (repeat refine dw ?_); exact BK422.out) hb); have n2_ := Sd.mk (blk_below (g := gb453) (o := .cells #[.int .i64 x454000_2, .int .i64 x454001_2] 25 (0, 0)) (by (repeat refine dw ?_); refine blk_far ?_ NB453_455.out _; (repeat refine dw ?_); refine blk_far ?_ NB453_455.out _; (repeat refine dw ?_); exact BK453.out) hb); have n3_ := Sd.mk (blk_below (g := gb455) (o := .cells #[.int .i64 ((rd_T39 x8_1 x14_2).f1.f0), .int .i64 ((rd_T39 x8_1 x14_2).f1.f1)] 25 (0, 0)) (by (repeat refine dw ?_); refine blk_put (cs := #[.int .i64 ((rd_T39 x8_1 x14_2).f1.f0), .int .i64 0]) ?_ 1 _ rfl; (repeat refine dw ?_); refine blk_put (cs := #[.int .i64 0, .int .i64 0]) ?_ 0 _ rfl; (repeat refine dw ?_); exact BK455.out) hb); have n4_ := bsq w hb; clear HO_8; clear BK422; clear BK453; clear BK455; clear HB; have HO_8 := n0_; have BK422 := n1_; have BK453 := n2_; have BK455 := n3_; have HB := n4_; clear n0_ n1_ n2_ n3_ n4_; (try clear hb); have hcz101_0 := bz0 BK453; have hcz101_1 := bz1 BK453; have hfz101_0 := blk_frozen BK453.out 0; have hfz101_1 := blk_frozen BK453.out 1; have hcz102_0 := bz0 BK455; have hcz102_1 := bz1 BK455; have hfz102_0 := blk_frozen BK455.out 0; have hfz102_1 := blk_frozen BK455.out 1) | (go_at_call 48; (with_reducible refine (r8_Less.calls k2 x454000_2 x454001_2 ((rd_T39 x8_1 x14_2).f1.f0) ((rd_T39 x8_1 x14_2).f1.f1) t457 _ A94.out).mono ?_); rintro e w103 ⟨rfl, hb⟩; replace HO_8 := brb HO_8 hb; replace BK422 := bkb BK422 hb; replace BK453 := bkb BK453 hb; replace BK455 := bkb BK455 hb; replace HB := bsq w hb; (try clear hb)))
                                      go_meet
                                      case rel => exact ⟨_, (t457), ae, H', ⟨by have := HK1.out; have := HK2.out; first | omega | exact Nat.le_refl _⟩, fwR HO_8, fwK BK422, fwK BK453, fwK BK455, ⟨bbl⟩⟩
                                    · rw [if_neg c93] at H
                                      have c93b0 : (a0.toList == ([109, 97, 120] : List UInt8)) = false := beq_eq_false_iff_ne.mpr c93
                                      have c93b1 : (a0.toList != ([109, 97, 120] : List UInt8)) = true := bne_iff_ne.mpr c93
                                      have H' := Sd.mk H
                                      clear H
                                      have hnb104 := NB455_422.out
                                      have hnc104 := NB422_455.out
                                      have hnb105 := NB455_453.out
                                      have hnc105 := NB453_455.out
                                      obtain ⟨hcz106_0, hcz106_1, hfz106_0, hfz106_1⟩ := bz BK455
                                      have hnb107 := NB453_422.out
                                      have hnc107 := NB422_453.out
                                      obtain ⟨hcz108_0, hcz108_1, hfz108_0, hfz108_1⟩ := bz BK453
                                      go_wp2_with (first | (go_at_call 48; (with_reducible refine (r8_Less.calls k2 ((rd_T39 x8_1 x14_2).f1.f0) ((rd_T39 x8_1 x14_2).f1.f1) x454000_2 x454001_2 false _ A85.out).mono ?_); rintro e w109 ⟨rfl, hb⟩; have n0_ := Sd.mk (Kd.R_below (by (repeat refine dR ?_); exact (Kd.R_mono (Kd.R_far (p := ⟨gb455, 1, none⟩) (Kd.R_far (p := ⟨gb455, 0, none⟩) (Kd.R_types HO_8.out BK455.out (by decide)) (fun _ hk => hk.2) (.int .i64 ((rd_T39 x8_1 x14_2).f1.f0))) (fun _ hk => hk.2) (.int .i64 ((rd_T39 x8_1 x14_2).f1.f1))) (fun _ h_ => h_.1))) hb); have n1_ := Sd.mk (blk_below (g := gb422) (o := .cells #[.int .i64 x423000_1, .int .i64 x423001_1] 25 (0, 0)) (by (repeat refine dw ?_); refine blk_far ?_ NB422_455.out _; (repeat refine dw ?_); refine blk_far ?_ NB422_455.out _; (repeat refine dw ?_); exact BK422.out) hb); have n2_ := Sd.mk (blk_below (g := gb453) (o := .cells #[.int .i64 x454000_2, .int .i64 x454001_2] 25 (0, 0)) (by (repeat refine dw ?_); refine blk_far ?_ NB453_455.out _; (repeat refine dw ?_); refine blk_far ?_ NB453_455.out _; (repeat refine dw ?_); exact BK453.out) hb); have n3_ := Sd.mk (blk_below (g := gb455) (o := .cells #[.int .i64 ((rd_T39 x8_1 x14_2).f1.f0), .int .i64 ((rd_T39 x8_1 x14_2).f1.f1)] 25 (0, 0)) (by (repeat refine dw ?_); refine blk_put (cs := #[.int .i64 ((rd_T39 x8_1 x14_2).f1.f0), .int .i64 0]) ?_ 1 _ rfl; (repeat refine dw ?_); refine blk_put (cs := #[.int .i64 0, .int .i64 0]) ?_ 0 _ rfl; (repeat refine dw ?_); exact BK455.out) hb); have n4_ := bsq w hb; clear HO_8; clear BK422; clear BK453; clear BK455; clear HB; have HO_8 := n0_; have BK422 := n1_; have BK453 := n2_; have BK455 := n3_; have HB := n4_; clear n0_ n1_ n2_ n3_ n4_; (try clear hb)))
                                      go_meet
                                      case rel => exact ⟨_, (false), ae, H', ⟨by have := HK1.out; have := HK2.out; first | omega | exact Nat.le_refl _⟩, fwR HO_8, fwK BK422, fwK BK453, fwK BK455, ⟨bbl⟩⟩
                                · rw [if_neg c84] at H
                                  have c84b0 : (a0.toList == ([109, 105, 110] : List UInt8)) = false := beq_eq_false_iff_ne.mpr c84
                                  have c84b1 : (a0.toList != ([109, 105, 110] : List UInt8)) = true := bne_iff_ne.mpr c84
                                  (first | rw [c84b0] | (simp only [i64_w, i32_w]; rw [c84b0]) | skip)
                                  by_cases c110 : a0.toList = ([109, 97, 120] : List UInt8)
                                  · rw [if_pos c110] at H
                                    have c110b0 : (a0.toList == ([109, 97, 120] : List UInt8)) = true := beq_iff_eq.mpr c110
                                    have c110b1 : (a0.toList != ([109, 97, 120] : List UInt8)) = false := bne_eq_false_iff_eq.mpr c110
                                    clear c110
                                    obtain ⟨t458, A111, H⟩ := bnd H
                                    have H' := Sd.mk H
                                    clear H
                                    have hnb112 := NB453_422.out
                                    have hnc112 := NB422_453.out
                                    have hnb113 := NB453_455.out
                                    have hnc113 := NB455_453.out
                                    obtain ⟨hcz114_0, hcz114_1, hfz114_0, hfz114_1⟩ := bz BK453
                                    have hnb115 := NB455_422.out
                                    have hnc115 := NB422_455.out
                                    obtain ⟨hcz116_0, hcz116_1, hfz116_0, hfz116_1⟩ := bz BK455
                                    go_wp2_with (first | (go_at_call 48; (with_reducible refine (r8_Less.calls k2 x454000_2 x454001_2 ((rd_T39 x8_1 x14_2).f1.f0) ((rd_T39 x8_1 x14_2).f1.f1) t458 _ A111.out).mono ?_); rintro e w117 ⟨rfl, hb⟩; have n0_ := Sd.mk (Kd.R_below (by (repeat refine dR ?_); exact (Kd.R_mono (Kd.R_far (p := ⟨gb455, 1, none⟩) (Kd.R_far (p := ⟨gb455, 0, none⟩) (Kd.R_types HO_8.out BK455.out (by decide)) (fun _ hk => hk.2) (.int .i64 ((rd_T39 x8_1 x14_2).f1.f0))) (fun _ hk => hk.2) (.int .i64 ((rd_T39 x8_1 x14_2).f1.f1))) (fun _ h_ => h_.1))) hb); have n1_ := Sd.mk (blk_below (g := gb422) (o := .cells #[.int .i64 x423000_1, .int .i64 x423001_1] 25 (0, 0)) (by (repeat refine dw ?_); refine blk_far ?_ NB422_455.out _; (repeat refine dw ?_); refine blk_far ?_ NB422_455.out _; (repeat refine dw ?_); exact BK422.out) hb); have n2_ := Sd.mk (blk_below (g := gb453) (o := .cells #[.int .i64 x454000_2, .int .i64 x454001_2] 25 (0, 0)) (by (repeat refine dw ?_); refine blk_far ?_ NB453_455.out _; (repeat refine dw ?_); refine blk_far ?_ NB453_455.out _; (repeat refine dw ?_); exact BK453.out) hb); have n3_ := Sd.mk (blk_below (g := gb455) (o := .cells #[.int .i64 ((rd_T39 x8_1 x14_2).f1.f0), .int .i64 ((rd_T39 x8_1 x14_2).f1.f1)] 25 (0, 0)) (by (repeat refine dw ?_); refine blk_put (cs := #[.int .i64 ((rd_T39 x8_1 x14_2).f1.f0), .int .i64 0]) ?_ 1 _ rfl; (repeat refine dw ?_); refine blk_put (cs := #[.int .i64 0, .int .i64 0]) ?_ 0 _ rfl; (repeat refine dw ?_); exact BK455.out) hb); have n4_ := bsq w hb; clear HO_8; clear BK422; clear BK453; clear BK455; clear HB; have HO_8 := n0_; have BK422 := n1_; have BK453 := n2_; have BK455 := n3_; have HB := n4_; clear n0_ n1_ n2_ n3_ n4_; (try clear hb)))
                                    go_meet
                                    case rel => exact ⟨_, (t458), ae, H', ⟨by have := HK1.out; have := HK2.out; first | omega | exact Nat.le_refl _⟩, fwR HO_8, fwK BK422, fwK BK453, fwK BK455, ⟨bbl⟩⟩
                                  · rw [if_neg c110] at H
                                    have c110b0 : (a0.toList == ([109, 97, 120] : List UInt8)) = false := beq_eq_false_iff_ne.mpr c110
                                    have c110b1 : (a0.toList != ([109, 97, 120] : List UInt8)) = true := bne_iff_ne.mpr c110
                                    have H' := Sd.mk H
                                    clear H
                                    go_wp2
                                    go_meet
                                    case rel => exact ⟨_, (false), ae, H', ⟨by have := HK1.out; have := HK2.out; first | omega | exact Nat.le_refl _⟩, ⟨by (repeat refine dR ?_); exact Kd.R_mono (Kd.R_far (p := ⟨gb455, 1, none⟩) (Kd.R_far (p := ⟨gb455, 0, none⟩) (Kd.R_types HO_8.out BK455.out (by decide)) (fun _ hk => hk.2) (.int .i64 ((rd_T39 x8_1 x14_2).f1.f0))) (fun _ hk => hk.2) (.int .i64 ((rd_T39 x8_1 x14_2).f1.f1))) (fun _ hk => trivial)⟩, ⟨by (repeat refine dw ?_); refine blk_far ?_ NB422_455.out _; (repeat refine dw ?_); refine blk_far ?_ NB422_455.out _; (repeat refine dw ?_); exact BK422.out⟩, ⟨by (repeat refine dw ?_); refine blk_far ?_ NB453_455.out _; (repeat refine dw ?_); refine blk_far ?_ NB453_455.out _; (repeat refine dw ?_); exact BK453.out⟩, ⟨by (repeat refine dw ?_); refine blk_put (cs := #[.int .i64 ((rd_T39 x8_1 x14_2).f1.f0), .int .i64 0]) ?_ 1 _ rfl; (repeat refine dw ?_); refine blk_put (cs := #[.int .i64 0, .int .i64 0]) ?_ 0 _ rfl; (repeat refine dw ?_); exact BK455.out⟩, ⟨bbl⟩⟩
                              case rest =>
                                clear HC79
                                obtain ⟨kq, x117_78, rfl, HA, HJ78, HO_8, BK422, BK453, BK455, HB⟩ := hcut
                                cases kq with
                                | zero => exact absurd HA.out (by simp [q10_Reduce.j3])
                                | succ kj78 =>
                                  have H := HA.out
                                  clear HA
                                  simp only [q10_Reduce.j3] at H
                                  by_cases c118 : x117_78 = true
                                  · subst c118
                                    replace H := iT H
                                    have H' := Sd.mk H
                                    clear H
                                    have hnb119 := NB455_422.out
                                    have hnc119 := NB422_455.out
                                    have hnb120 := NB455_453.out
                                    have hnc120 := NB453_455.out
                                    obtain ⟨hcz121_0, hcz121_1, hfz121_0, hfz121_1⟩ := bz BK455
                                    have hnb122 := NB453_422.out
                                    have hnc122 := NB422_453.out
                                    obtain ⟨hcz123_0, hcz123_1, hfz123_0, hfz123_1⟩ := bz BK453
                                    go_wp2
                                    go_roundg kj78
                                    case measure => have := HK1.out; have := HK2.out; have := HJ78.out; omega
                                    case rel => exact ⟨(wrap64 (x14_2 + 1)), (((rd_T39 x8_1 x14_2).f1.f0)), (((rd_T39 x8_1 x14_2).f1.f1)), ae, H', ⟨by have := HK1.out; have := HK2.out; have := HJ78.out; omega⟩, ⟨by (repeat refine dR ?_); exact Kd.R_mono (Kd.R_far (p := ⟨gb453, 1, none⟩) (Kd.R_far (p := ⟨gb453, 0, none⟩) (Kd.R_types HO_8.out BK453.out (by decide)) (fun _ hk => hk.2) (.int .i64 ((rd_T39 x8_1 x14_2).f1.f0))) (fun _ hk => hk.2) (.int .i64 ((rd_T39 x8_1 x14_2).f1.f1))) (fun _ hk => trivial)⟩, ⟨by (repeat refine dw ?_); refine blk_far ?_ NB422_453.out _; (repeat refine dw ?_); refine blk_far ?_ NB422_453.out _; (repeat refine dw ?_); exact BK422.out⟩, ⟨by (repeat refine dw ?_); refine blk_put (cs := #[.int .i64 ((rd_T39 x8_1 x14_2).f1.f0), .int .i64 x454001_2]) ?_ 1 _ rfl; (repeat refine dw ?_); refine blk_put (cs := #[.int .i64 x454000_2, .int .i64 x454001_2]) ?_ 0 _ rfl; (repeat refine dw ?_); exact BK453.out⟩, ⟨bbl⟩⟩
                                  · replace c118 := Bool.eq_false_iff.mpr c118
                                    subst c118
                                    replace H := iF H
                                    by_cases c124 : a0.toList = ([115, 117, 109] : List UInt8)
                                    · rw [if_pos c124] at H
                                      have c124b0 : (a0.toList == ([115, 117, 109] : List UInt8)) = true := beq_iff_eq.mpr c124
                                      have c124b1 : (a0.toList != ([115, 117, 109] : List UInt8)) = false := bne_eq_false_iff_eq.mpr c124
                                      clear c124
                                      obtain ⟨⟨t459, t460⟩, A125, H⟩ := bnd H
                                      replace H : (q10_Reduce.l2 kj78 a0 x8_1 (wrap64 (x14_2 + 1)) t459 t460) = some (r1, r2, r3) := H
                                      have H' := Sd.mk H
                                      clear H
                                      have hnb126 := NB453_422.out
                                      have hnc126 := NB422_453.out
                                      have hnb127 := NB453_455.out
                                      have hnc127 := NB455_453.out
                                      obtain ⟨hcz128_0, hcz128_1, hfz128_0, hfz128_1⟩ := bz BK453
                                      have hnb129 := NB455_422.out
                                      have hnc129 := NB422_455.out
                                      obtain ⟨hcz130_0, hcz130_1, hfz130_0, hfz130_1⟩ := bz BK455
                                      go_wp2_with (first | ((with_reducible refine gate_callee (f := 49) rfl ?_); refine goesL_ (some 144) rfl rfl Tryz.func49 (by kernel_rfl) rfl #[.string (⟨#[43]⟩ : ByteArray), .agg #[.int .i64 x454000_2, .int .i64 x454001_2], .agg #[.int .i64 ((rd_T39 x8_1 x14_2).f1.f0), .int .i64 ((rd_T39 x8_1 x14_2).f1.f1)]] rfl ma ?_; (with_reducible refine (q10_do.calls kj78 (⟨#[43]⟩ : ByteArray) x454000_2 x454001_2 ((rd_T39 x8_1 x14_2).f1.f0) ((rd_T39 x8_1 x14_2).f1.f1) t459 t460 _ A125.out).mono ?_); rintro e w131 ⟨rfl, hb⟩; refine ⟨_, rfl, ?_⟩; replace HO_8 := brb HO_8 hb; replace BK422 := bkb BK422 hb; replace BK453 := bkb BK453 hb; replace BK455 := bkb BK455 hb; replace HB := bsq w hb; (try clear hb); have hcz132_0 := bz0 BK453; have hcz132_1 := bz1 BK453; have hfz132_0 := blk_frozen BK453.out 0; have hfz132_1 := blk_frozen BK453.out 1))
                                      go_roundg kj78
                                      case measure => have := HK1.out; have := HK2.out; have := HJ78.out; omega
                                      case rel => exact ⟨(wrap64 (x14_2 + 1)), (t459), (t460), ae, H', ⟨by have := HK1.out; have := HK2.out; have := HJ78.out; omega⟩, ⟨by (repeat refine dR ?_); exact Kd.R_mono (Kd.R_far (p := ⟨gb453, 1, none⟩) (Kd.R_far (p := ⟨gb453, 0, none⟩) (Kd.R_types HO_8.out BK453.out (by decide)) (fun _ hk => hk.2) (.int .i64 t459)) (fun _ hk => hk.2) (.int .i64 t460)) (fun _ hk => trivial)⟩, ⟨by (repeat refine dw ?_); refine blk_far ?_ NB422_453.out _; (repeat refine dw ?_); refine blk_far ?_ NB422_453.out _; (repeat refine dw ?_); exact BK422.out⟩, ⟨by (repeat refine dw ?_); refine blk_put (cs := #[.int .i64 t459, .int .i64 x454001_2]) ?_ 1 _ rfl; (repeat refine dw ?_); refine blk_put (cs := #[.int .i64 x454000_2, .int .i64 x454001_2]) ?_ 0 _ rfl; (repeat refine dw ?_); exact BK453.out⟩, ⟨bbl⟩⟩
                                    · rw [if_neg c124] at H
                                      have c124b0 : (a0.toList == ([115, 117, 109] : List UInt8)) = false := beq_eq_false_iff_ne.mpr c124
                                      have c124b1 : (a0.toList != ([115, 117, 109] : List UInt8)) = true := bne_iff_ne.mpr c124
                                      by_cases c133 : a0.toList = ([109, 101, 97, 110] : List UInt8)
                                      · rw [if_pos c133] at H
                                        have c133b0 : (a0.toList == ([109, 101, 97, 110] : List UInt8)) = true := beq_iff_eq.mpr c133
                                        have c133b1 : (a0.toList != ([109, 101, 97, 110] : List UInt8)) = false := bne_eq_false_iff_eq.mpr c133
                                        clear c133
                                        obtain ⟨⟨t461, t462⟩, A134, H⟩ := bnd H
                                        replace H : (q10_Reduce.l2 kj78 a0 x8_1 (wrap64 (x14_2 + 1)) t461 t462) = some (r1, r2, r3) := H
                                        have H' := Sd.mk H
                                        clear H
                                        have hnb135 := NB453_422.out
                                        have hnc135 := NB422_453.out
                                        have hnb136 := NB453_455.out
                                        have hnc136 := NB455_453.out
                                        obtain ⟨hcz137_0, hcz137_1, hfz137_0, hfz137_1⟩ := bz BK453
                                        have hnb138 := NB455_422.out
                                        have hnc138 := NB422_455.out
                                        obtain ⟨hcz139_0, hcz139_1, hfz139_0, hfz139_1⟩ := bz BK455
                                        go_wp2_with (first | ((with_reducible refine gate_callee (f := 49) rfl ?_); refine goesL_ (some 144) rfl rfl Tryz.func49 (by kernel_rfl) rfl #[.string (⟨#[43]⟩ : ByteArray), .agg #[.int .i64 x454000_2, .int .i64 x454001_2], .agg #[.int .i64 ((rd_T39 x8_1 x14_2).f1.f0), .int .i64 ((rd_T39 x8_1 x14_2).f1.f1)]] rfl ma ?_; (with_reducible refine (q10_do.calls kj78 (⟨#[43]⟩ : ByteArray) x454000_2 x454001_2 ((rd_T39 x8_1 x14_2).f1.f0) ((rd_T39 x8_1 x14_2).f1.f1) t461 t462 _ A134.out).mono ?_); rintro e w140 ⟨rfl, hb⟩; refine ⟨_, rfl, ?_⟩; replace HO_8 := brb HO_8 hb; replace BK422 := bkb BK422 hb; replace BK453 := bkb BK453 hb; replace BK455 := bkb BK455 hb; replace HB := bsq w hb; (try clear hb); have hcz141_0 := bz0 BK453; have hcz141_1 := bz1 BK453; have hfz141_0 := blk_frozen BK453.out 0; have hfz141_1 := blk_frozen BK453.out 1))
                                        go_roundg kj78
                                        case measure => have := HK1.out; have := HK2.out; have := HJ78.out; omega
                                        case rel => exact ⟨(wrap64 (x14_2 + 1)), (t461), (t462), ae, H', ⟨by have := HK1.out; have := HK2.out; have := HJ78.out; omega⟩, ⟨by (repeat refine dR ?_); exact Kd.R_mono (Kd.R_far (p := ⟨gb453, 1, none⟩) (Kd.R_far (p := ⟨gb453, 0, none⟩) (Kd.R_types HO_8.out BK453.out (by decide)) (fun _ hk => hk.2) (.int .i64 t461)) (fun _ hk => hk.2) (.int .i64 t462)) (fun _ hk => trivial)⟩, ⟨by (repeat refine dw ?_); refine blk_far ?_ NB422_453.out _; (repeat refine dw ?_); refine blk_far ?_ NB422_453.out _; (repeat refine dw ?_); exact BK422.out⟩, ⟨by (repeat refine dw ?_); refine blk_put (cs := #[.int .i64 t461, .int .i64 x454001_2]) ?_ 1 _ rfl; (repeat refine dw ?_); refine blk_put (cs := #[.int .i64 x454000_2, .int .i64 x454001_2]) ?_ 0 _ rfl; (repeat refine dw ?_); exact BK453.out⟩, ⟨bbl⟩⟩
                                      · rw [if_neg c133] at H
                                        have c133b0 : (a0.toList == ([109, 101, 97, 110] : List UInt8)) = false := beq_eq_false_iff_ne.mpr c133
                                        have c133b1 : (a0.toList != ([109, 101, 97, 110] : List UInt8)) = true := bne_iff_ne.mpr c133
                                        have H' := Sd.mk H
                                        clear H
                                        go_wp2
                                        go_roundg kj78
                                        case measure => have := HK1.out; have := HK2.out; have := HJ78.out; omega
                                        case rel => exact ⟨(wrap64 (x14_2 + 1)), (x454000_2), (x454001_2), ae, H', ⟨by have := HK1.out; have := HK2.out; have := HJ78.out; omega⟩, fwR HO_8, fwK BK422, fwK BK453, ⟨bbl⟩⟩
                            · rw [if_neg c78] at H
                              exact absurd H (by simp)
                          · rw [if_neg c77] at H
                            have c77b0 : decide (x14_2 < (x8_1.length : Int)) = false := decide_eq_false c77
                            clear c77
                            by_cases c142 : a0.toList = ([109, 101, 97, 110] : List UInt8)
                            · rw [if_pos c142] at H
                              have c142b0 : (a0.toList == ([109, 101, 97, 110] : List UInt8)) = true := beq_iff_eq.mpr c142
                              have c142b1 : (a0.toList != ([109, 101, 97, 110] : List UInt8)) = false := bne_eq_false_iff_eq.mpr c142
                              clear c142
                              obtain ⟨⟨t463, t464⟩, A143, H⟩ := bnd H
                              replace H : ((q10_do.f k2 (⟨#[47]⟩ : ByteArray) x454000_2 x454001_2 t463 t464).bind fun bt465 => (some (bt465.1, bt465.2, 0))) = some (r1, r2, r3) := H
                              obtain ⟨⟨t465, t466⟩, A144, H⟩ := bnd H
                              replace H : (some (t465, t466, 0)) = some (r1, r2, r3) := H
                              simp only [Option.some.injEq, Prod.mk.injEq] at H
                              obtain ⟨rfl, rfl, rfl⟩ := H
                              try go_wp2
                              have n0_ := Sd.mk (Kd.R_drew HO_8.out)
                              have n1_ := Sd.mk (blk_drew BK422.out)
                              have n2_ := Sd.mk (blk_drew BK453.out)
                              have n3_ := Sd.mk (bd1 HB.out)
                              clear HO_8 BK422 BK453 HB
                              have HO_8 := n0_
                              have BK422 := n1_
                              have BK453 := n2_
                              have HB := n3_
                              clear n0_ n1_ n2_ n3_
                              refine start_ (n := 7) (S := fun w' => w'.cell? ⟨gb453, 0, none⟩ = some (.int .i64 x454000_2) ∧ w'.cell? ⟨gb453, 1, none⟩ = some (.int .i64 x454001_2)) (ds := [6]) #[false, false, false, false, false, false, false] (by kernel_rfl) rfl rfl ⟨(blk_cell BK453.out 0).trans rfl, (blk_cell BK453.out 1).trans rfl⟩ (fun hHeld => ?_)
                              generalize wr.drew = w145 at HO_8 BK422 BK453 HB hHeld ⊢
                              refine pure_ (i := 1) (N := some 148) (v := ?_) (a' := ?_) #[false, true, false, false, false, false, false] rfl rfl (by kernel_rfl) (fun _ _ _ h => h) (Or.inl ⟨by rfl, ?_⟩) ?_ ?_
                              rotate_left
                              · intro w'
                                go_simp
                                with_reducible rfl
                              rotate_left
                              · simp only [Act.put, List.setIfInBounds_toArray, List.set_cons_zero, List.set_cons_succ, i64_w, i32_w]
                                rfl
                              refine pure_ (i := 2) (N := some 149) (v := ?_) (a' := ?_) #[false, true, true, false, false, false, false] rfl rfl (by kernel_rfl) (fun _ _ _ h => h) (Or.inl ⟨by rfl, ?_⟩) ?_ ?_
                              rotate_left
                              · intro w'
                                go_simp
                                with_reducible rfl
                              rotate_left
                              · simp only [Act.put, List.setIfInBounds_toArray, List.set_cons_zero, List.set_cons_succ, i64_w, i32_w]
                                rfl
                              refine pure_ (i := 3) (N := some 150) (v := ?_) (a' := ?_) #[false, true, true, true, false, false, false] rfl rfl (by kernel_rfl) (fun _ _ _ h => h) (Or.inl ⟨by rfl, ?_⟩) ?_ ?_
                              rotate_left
                              · intro w'
                                go_simp
                                with_reducible rfl
                              rotate_left
                              · simp only [Act.put, List.setIfInBounds_toArray, List.set_cons_zero, List.set_cons_succ, i64_w, i32_w]
                                rfl
                              refine take_ (i := 0) (N := some 147) (v := ?_) (a' := ?_) #[true, true, true, true, false, false, false] rfl rfl (by kernel_rfl) (fun _ _ _ h => h) (Or.inl ⟨by rfl, ?_⟩) hHeld ?_ ?_
                              rotate_left
                              · rintro w' ⟨s0, s1⟩
                                go_simp
                                with_reducible rfl
                              rotate_left
                              · simp only [Act.put, List.setIfInBounds_toArray, List.set_cons_zero, List.set_cons_succ, i64_w, i32_w]
                                rfl
                              refine one_ (i := 4) (N := some 151) #[true, true, true, true, true, false, false] rfl rfl (by kernel_rfl) (by decide) (fun K hK => ?_)
                              refine goes_ Tryz.func27 (by kernel_rfl) rfl #[.int .i64 (wrap64 (1000 * (x8_1.length : Int)))] (by rfl) rfl rfl ma ?_
                              with_reducible refine (r8_Num.calls (wrap64 (1000 * (x8_1.length : Int))) t463 t464 _ A143.out).mono ?_
                              rintro e w146 ⟨rfl, hb⟩
                              refine ⟨_, rfl, ?_⟩
                              have n0_ := brb HO_8 hb
                              have n1_ := bkb BK422 hb
                              have n2_ := bkb BK453 hb
                              have n3_ := bsq w hb
                              clear HO_8 BK422 BK453 HB
                              have HO_8 := n0_
                              have BK422 := n1_
                              have BK453 := n2_
                              have HB := n3_
                              clear n0_ n1_ n2_ n3_
                              (try clear hb)
                              (try clear hb2)
                              (try clear hk)
                              (try clear hi)
                              refine hK.out _ _ ⟨(blk_cell BK453.out 0).trans rfl, (blk_cell BK453.out 1).trans rfl⟩ (fun hHeld => ?_)
                              clear hK K
                              refine norm_ (a' := ?_) ?_ ?_
                              rotate_left
                              · show Act.put _ (some 151) _ = _
                                simp only [Act.put, List.setIfInBounds_toArray, List.set_cons_zero, List.set_cons_succ, i64_w, i32_w]
                                rfl
                              refine one_ (i := 5) (N := some 152) #[true, true, true, true, true, true, false] rfl rfl (by kernel_rfl) (by decide) (fun K hK => ?_)
                              refine goes_ Tryz.func49 (by kernel_rfl) rfl #[.string (⟨#[47]⟩ : ByteArray), .agg #[.int .i64 x454000_2, .int .i64 x454001_2], .agg #[.int .i64 t463, .int .i64 t464]] (by rfl) rfl rfl ma ?_
                              with_reducible refine (q10_do.calls k2 (⟨#[47]⟩ : ByteArray) x454000_2 x454001_2 t463 t464 t465 t466 _ A144.out).mono ?_
                              rintro e w147 ⟨rfl, hb⟩
                              refine ⟨_, rfl, ?_⟩
                              have n0_ := brb HO_8 hb
                              have n1_ := bkb BK422 hb
                              have n2_ := bkb BK453 hb
                              have n3_ := bsq w hb
                              clear HO_8 BK422 BK453 HB
                              have HO_8 := n0_
                              have BK422 := n1_
                              have BK453 := n2_
                              have HB := n3_
                              clear n0_ n1_ n2_ n3_
                              (try clear hb)
                              (try clear hb2)
                              (try clear hk)
                              (try clear hi)
                              refine hK.out _ _ ⟨(blk_cell BK453.out 0).trans rfl, (blk_cell BK453.out 1).trans rfl⟩ (fun hHeld => ?_)
                              clear hK K
                              refine norm_ (a' := ?_) ?_ ?_
                              rotate_left
                              · show Act.put _ (some 152) _ = _
                                simp only [Act.put, List.setIfInBounds_toArray, List.set_cons_zero, List.set_cons_succ, i64_w, i32_w]
                                rfl
                              refine last_ (i := 6) (N := none) #[true, true, true, true, true, true, true] rfl rfl (by kernel_rfl) (by decide) (fun K hK => ?_)
                              have hs148 : w147.cell? ⟨gb453, 0, none⟩ = some (.int .i64 x454000_2) := (blk_cell BK453.out 0).trans rfl
                              have hfs148 := blk_frozen BK453.out 0
                              have hns148_0 := NB422_453.out
                              have hms148_0 := NB453_422.out
                              have hs149 : w147.cell? ⟨gb453, 1, none⟩ = some (.int .i64 x454001_2) := (blk_cell BK453.out 1).trans rfl
                              have hfs149 := blk_frozen BK453.out 1
                              have hns149_0 := NB422_453.out
                              have hms149_0 := NB453_422.out
                              refine skip_ (w1 := ?_) (by rfl) rfl ?_ ?_
                              rotate_left
                              · go_simp
                                rfl
                              refine hK.out _ _ ?_
                              clear hK K
                              refine done_ (by kernel_rfl) ?_
                              have hnb150 := NB453_422.out
                              have hnc150 := NB422_453.out
                              obtain ⟨hcz151_0, hcz151_1, hfz151_0, hfz151_1⟩ := bz BK453
                              obtain ⟨hcz152_0, hcz152_1, hfz152_0, hfz152_1⟩ := bz BK422
                              try go_wp2
                              refine bodyPost_ret (results_ct rfl _ _ gb422 25 #[.int .i64 t465, .int .i64 t466] (0, 0) _ rfl (by (repeat refine dw ?_); refine blk_put (cs := #[.int .i64 t465, .int .i64 x423001_1]) ?_ 1 _ rfl; (repeat refine dw ?_); refine blk_put (cs := #[.int .i64 x423000_1, .int .i64 x423001_1]) ?_ 0 _ rfl; (repeat refine dw ?_); refine blk_far ?_ NB422_453.out _; (repeat refine dw ?_); refine blk_far ?_ NB422_453.out _; (repeat refine dw ?_); exact BK422.out) Tryz.underlying25 rfl (by kernel_rfl)) rfl ?_
                              exact ⟨fe, bbl⟩
                            · rw [if_neg c142] at H
                              have c142b0 : (a0.toList == ([109, 101, 97, 110] : List UInt8)) = false := beq_eq_false_iff_ne.mpr c142
                              have c142b1 : (a0.toList != ([109, 101, 97, 110] : List UInt8)) = true := bne_iff_ne.mpr c142
                              simp only [Option.some.injEq, Prod.mk.injEq] at H
                              obtain ⟨rfl, rfl, rfl⟩ := H
                              have hnb153 := NB453_422.out
                              have hnc153 := NB422_453.out
                              obtain ⟨hcz154_0, hcz154_1, hfz154_0, hfz154_1⟩ := bz BK453
                              obtain ⟨hcz155_0, hcz155_1, hfz155_0, hfz155_1⟩ := bz BK422
                              go_wp2
                              refine bodyPost_ret (results_ct rfl _ _ gb422 25 #[.int .i64 x454000_2, .int .i64 x454001_2] (0, 0) _ rfl (by (repeat refine dw ?_); refine blk_put (cs := #[.int .i64 x454000_2, .int .i64 x423001_1]) ?_ 1 _ rfl; (repeat refine dw ?_); refine blk_put (cs := #[.int .i64 x423000_1, .int .i64 x423001_1]) ?_ 0 _ rfl; (repeat refine dw ?_); exact BK422.out) Tryz.underlying25 rfl (by kernel_rfl)) rfl ?_
                              exact ⟨fe, bbl⟩
                    · rw [if_neg c72] at H
                      exact absurd H (by simp)
  · replace c5 := Bool.eq_false_iff.mpr c5
    subst c5
    replace H := iF H
    simp only [Option.some.injEq, Prod.mk.injEq] at H
    obtain ⟨rfl, rfl, rfl⟩ := H
    go_enter Tryz.func11, Tryz.ntmps11
    go_wp2_with (first | ((with_reducible refine gate_dst (N := 6) rfl ?_); refine bxe (N := 6) (cs := #[.int .i64 0, .int .i64 0]) (t := 25) ?_; intro gb422 hg w156 hbox hb; have BK422 := Sd.mk hbox; have GW422 := bge w hg; have GE422 := bge w hg; replace HB := bsq w hb; clear hb hbox hg) | ((with_reducible refine gate_dst (N := 16) rfl ?_); refine Kd.R_lit Kd.string _ 9 ?hg (N := 16) ?hd (xs := ([(⟨#[108, 97, 115, 116]⟩ : ByteArray), (⟨#[109, 105, 110]⟩ : ByteArray), (⟨#[109, 97, 120]⟩ : ByteArray), (⟨#[115, 117, 109]⟩ : ByteArray), (⟨#[109, 101, 97, 110]⟩ : ByteArray), (⟨#[99, 111, 117, 110, 116]⟩ : ByteArray)] : List ByteArray)) (inner := [.string (⟨#[108, 97, 115, 116]⟩ : ByteArray), .string (⟨#[109, 105, 110]⟩ : ByteArray), .string (⟨#[109, 97, 120]⟩ : ByteArray), .string (⟨#[115, 117, 109]⟩ : ByteArray), .string (⟨#[109, 101, 97, 110]⟩ : ByteArray), .string (⟨#[99, 111, 117, 110, 116]⟩ : ByteArray)]) (ok := fun _ => True) (okp := fun _ => True) ?hr ?hp (fun _ hk => hk) trivial (Below.refl _ _) (Nat.le_refl _) (by simp) ?_; (case hd => rfl); (case hg => rfl); (case hr => first | (go_simp; done) | (go_simp; rfl)); (case hp => exact (Reps.one (show Kd.M Kd.string _ _ _ (⟨#[108, 97, 115, 116]⟩ : ByteArray) [.string (⟨#[108, 97, 115, 116]⟩ : ByteArray)] from rfl) (Reps.one (show Kd.M Kd.string _ _ _ (⟨#[109, 105, 110]⟩ : ByteArray) [.string (⟨#[109, 105, 110]⟩ : ByteArray)] from rfl) (Reps.one (show Kd.M Kd.string _ _ _ (⟨#[109, 97, 120]⟩ : ByteArray) [.string (⟨#[109, 97, 120]⟩ : ByteArray)] from rfl) (Reps.one (show Kd.M Kd.string _ _ _ (⟨#[115, 117, 109]⟩ : ByteArray) [.string (⟨#[115, 117, 109]⟩ : ByteArray)] from rfl) (Reps.one (show Kd.M Kd.string _ _ _ (⟨#[109, 101, 97, 110]⟩ : ByteArray) [.string (⟨#[109, 101, 97, 110]⟩ : ByteArray)] from rfl) (Reps.one (show Kd.M Kd.string _ _ _ (⟨#[99, 111, 117, 110, 116]⟩ : ByteArray) [.string (⟨#[99, 111, 117, 110, 116]⟩ : ByteArray)] from rfl) (Reps.none _ _)))))))); intro v424 w157 ho158 hb hg_ hnew_; clear hg_ hnew_; (first | rw [← Ny423.out] at ho158 | (simp only [Int.reduceToNat] at ho158; rw [← Ny423.out] at ho158)); have n0_ := Sd.mk (Kd.R_lower ho158 (below_size bbl)); have n1_ := bkb BK422 hb; have n2_ := bsq w hb; clear BK422; clear HB; have HO425 := n0_; have BK422 := n1_; have HB := n2_; clear n0_ n1_ n2_; clear hb ho158; obtain ⟨Ao159, co159, eo159⟩ := Kd.R_slice HO425.out; subst eo159) | ((with_reducible refine gate_callee (f := 46) rfl ?_); refine goesL_ (some 18) rfl rfl Tryz.func46 (by kernel_rfl) rfl #[.slice Ao159 y423.length co159, .string a0] rfl ma ?_; (with_reducible refine (r10_in.calls k _ _ y423 a0 false _ ?side1 ?side2 A4.out).mono ?_); (case side1 => repeat (first | exact (Kd.R_reads' HO425.out).2.2 | (with_reducible refine Kd.C_alloc ?_ _) | (with_reducible refine Kd.C_drewN ?_ _) | (with_reducible refine Kd.C_drew ?_))); (case side2 => exact (Kd.R_reads' HO425.out).2.1); rintro e w' ⟨rfl, ⟨nd, rfl⟩⟩; refine ⟨_, rfl, ?_⟩; (try (rw [drewN_self w157]; generalize hq_ : World.drewN w157 _ = w157; have n0_ : Sd (Kd.R Kd.string 9 w157 w.heap.size (fun _ => True) (.slice Ao159 y423.length co159) y423) := ⟨by rw [← hq_]; exact (by (repeat refine dR ?_); exact HO425.out)⟩; have n1_ : Sd (w157.heap[gb422]? = some (.cells #[.int .i64 0, .int .i64 0] 25 (0, 0))) := ⟨by rw [← hq_]; exact (by exact blkF BK422.out)⟩; have n2_ : Sd (Below w.heap.size w w157) := ⟨by rw [← hq_]; exact bbl⟩; clear HO425 BK422 HB hq_; have HO425 := n0_; have BK422 := n1_; have HB := n2_; clear n0_ n1_ n2_)); have hcz160_0 := bz0 BK422; have hcz160_1 := bz1 BK422; have hfz160_0 := blk_frozen BK422.out 0; have hfz160_1 := blk_frozen BK422.out 1))
    refine bodyPost_ret (results_ct rfl _ _ gb422 25 #[.int .i64 0, .int .i64 0] (0, 0) _ rfl (by (repeat refine dw ?_); refine blk_put (cs := #[.int .i64 0, .int .i64 0]) ?_ 1 _ rfl; (repeat refine dw ?_); refine blk_put (cs := #[.int .i64 0, .int .i64 0]) ?_ 0 _ rfl; (repeat refine dw ?_); exact BK422.out) Tryz.underlying25 rfl (by kernel_rfl)) rfl ?_
    exact ⟨fe, bbl⟩
mutual
def lb_nameOK.l0 : Nat → ByteArray → Int → Int → Option (Bool)
 | 0, _, _, _ => none
 | k + 1, x0, x6, x7 => if x7 < x6 then (if 0 ≤ x7 then (if x7 < (x0.size : Int) then (if (bt x0 x7) ≥ 97 then (lb_nameOK.j1 k x0 x7 (bt x0 x7) x6 x7 (decide ((bt x0 x7) ≤ 122))) else (lb_nameOK.j1 k x0 x7 (bt x0 x7) x6 x7 false)) else (none)) else (none)) else (if x0.toList = ([] : List UInt8) then (some false) else (some (decide ((x0.size : Int) ≤ 64))))
def lb_nameOK.j1 : Nat → ByteArray → Int → Int → Int → Int → Bool → Option (Bool)
 | 0, _, _, _, _, _, _ => none
 | k + 1, x0, x3, x4, x6, x7, x13 => if x13 = true then (lb_nameOK.l0 k x0 x6 (wrap64 (x7 + 1))) else (if x4 ≥ 65 then (lb_nameOK.j2 k x0 x3 x4 x6 x7 (decide (x4 ≤ 90))) else (lb_nameOK.j2 k x0 x3 x4 x6 x7 false))
def lb_nameOK.j2 : Nat → ByteArray → Int → Int → Int → Int → Bool → Option (Bool)
 | 0, _, _, _, _, _, _ => none
 | k + 1, x0, x3, x4, x6, x7, x13 => if x13 = true then (lb_nameOK.l0 k x0 x6 (wrap64 (x7 + 1))) else (if x4 = 95 then (lb_nameOK.l0 k x0 x6 (wrap64 (x7 + 1))) else (if x3 > 0 then (if x4 ≥ 48 then (if x4 ≤ 57 then (lb_nameOK.l0 k x0 x6 (wrap64 (x7 + 1))) else (some false)) else (some false)) else (some false)))
end
def lb_nameOK.f (k : Nat) (a0 : ByteArray) : Option (Bool) := lb_nameOK.l0 k a0 (a0.size : Int) 0
theorem lb_nameOK.calls (k : Nat) (a0 : ByteArray) (r : Bool) (w : World) (h : lb_nameOK.f k a0 = some r) :
  Calls Tryz.prog 143 #[.string a0] w fun e w' => e = .returned (.bool r) ∧ Drawn0 w w' := by
 have H : (lb_nameOK.l0 k a0 (a0.size : Int) 0) = some r := h
 clear h
 have H' := Sd.mk H
 clear H
 go_enter Tryz.func143, Tryz.ntmps143
 go_wp2
 go_loopg [7] k (fun kq v7 w' => ∃ (x7_1 : Int), v7 = .int .i64 x7_1 ∧ Sd (lb_nameOK.l0 kq a0 (a0.size : Int) x7_1 = some r) ∧ Sd (kq ≤ k) ∧ Drawn0 w w')
 case atStart => exact ⟨(0), ae, H', ⟨Nat.le_refl _⟩, by repeat (first | exact Drawn0.refl _ | apply Drawn0.step)⟩
 case round =>
  clear H'
  obtain ⟨x7_1, rfl, HA, HK1, ⟨m1, rfl⟩⟩ := hrel
  cases gk with
  | zero => exact absurd HA.out (by simp [lb_nameOK.l0])
  | succ k1 =>
   have H := HA.out
   clear HA
   simp only [lb_nameOK.l0] at H
   by_cases c2 : x7_1 < (a0.size : Int)
   ·rw [if_pos c2] at H
    have c2b0 : decide (x7_1 < (a0.size : Int)) = true := decide_eq_true c2
    clear c2
    by_cases c3 : 0 ≤ x7_1
    ·rw [if_pos c3] at H
     have c3b0 : decide (0 ≤ x7_1) = true := decide_eq_true c3
     clear c3
     by_cases c4 : x7_1 < (a0.size : Int)
     ·rw [if_pos c4] at H
      have c4b0 : decide (x7_1 < (a0.size : Int)) = true := decide_eq_true c4
      clear c4
      have HC6 := Sd.mk H
      clear H
      have p5 : 0 ≤ (x7_1 : Int) := ode
      have q5 : x7_1 < (a0.size : Int) := ode
      have hx5 := bt_at a0 x7_1
      replace p5 := eq_true p5
      replace q5 := eq_true q5
      go_upto_region 6 with (fail)
      go_cut [13] (fun v13 wc => ∃ (kq : Nat) (x13_5 : Bool), v13 = .bool x13_5 ∧ Sd (lb_nameOK.j1 kq a0 x7_1 (bt a0 x7_1) (a0.size : Int) x7_1 x13_5 = some r) ∧ Sd (kq ≤ k1) ∧ Drawn0 w wc)
      case first =>
       have H := HC6.out
       clear HC6
       by_cases c7 : (bt a0 x7_1) ≥ 97
       ·rw [if_pos c7] at H
        have c7b0 : decide (97 ≤ (bt a0 x7_1)) = true := decide_eq_true c7
        clear c7
        (first | rw [c7b0] | (simp only [i64_w, i32_w]; rw [c7b0]) | skip)
        have H' := Sd.mk H
        clear H
        go_wp2
        go_meet
        case rel => exact ⟨_, (decide ((bt a0 x7_1) ≤ 122)), ae, H', ⟨by have := HK1.out; first | omega | exact Nat.le_refl _⟩, by repeat (first | exact Drawn0.refl _ | apply Drawn0.step)⟩
       ·rw [if_neg c7] at H
        have c7b0 : decide (97 ≤ (bt a0 x7_1)) = false := decide_eq_false c7
        clear c7
        (first | rw [c7b0] | (simp only [i64_w, i32_w]; rw [c7b0]) | skip)
        have H' := Sd.mk H
        clear H
        go_wp2
        go_meet
        case rel => exact ⟨_, (false), ae, H', ⟨by have := HK1.out; first | omega | exact Nat.le_refl _⟩, by repeat (first | exact Drawn0.refl _ | apply Drawn0.step)⟩
      case rest =>
       clear HC6
       obtain ⟨kq, x13_5, rfl, HA, HJ5, ⟨mc5, rfl⟩⟩ := hcut
       cases kq with
       | zero => exact absurd HA.out (by simp [lb_nameOK.j1])
       | succ kj5 =>
        have H := HA.out
        clear HA
        simp only [lb_nameOK.j1] at H
        by_cases c8 : x13_5 = true
        ·subst c8
         replace H := iT H
         have H' := Sd.mk H
         clear H
         go_wp2
         go_roundg kj5
         case measure => have := HK1.out; have := HJ5.out; omega
         case rel => exact ⟨(wrap64 (x7_1 + 1)), ae, H', ⟨by have := HK1.out; have := HJ5.out; omega⟩, by repeat (first | exact Drawn0.refl _ | apply Drawn0.step)⟩
        ·replace c8 := Bool.eq_false_iff.mpr c8
         subst c8
         replace H := iF H
         have HC9 := Sd.mk H
         clear H
         go_upto_region 7 with (fail)
         go_cut [13] (fun v13 wc => ∃ (kq : Nat) (x13_8 : Bool), v13 = .bool x13_8 ∧ Sd (lb_nameOK.j2 kq a0 x7_1 (bt a0 x7_1) (a0.size : Int) x7_1 x13_8 = some r) ∧ Sd (kq ≤ kj5) ∧ Drawn0 w wc)
         case first =>
          have H := HC9.out
          clear HC9
          by_cases c10 : (bt a0 x7_1) ≥ 65
          ·rw [if_pos c10] at H
           have c10b0 : decide (65 ≤ (bt a0 x7_1)) = true := decide_eq_true c10
           clear c10
           (first | rw [c10b0] | (simp only [i64_w, i32_w]; rw [c10b0]) | skip)
           have H' := Sd.mk H
           clear H
           go_wp2
           go_meet
           case rel => exact ⟨_, (decide ((bt a0 x7_1) ≤ 90)), ae, H', ⟨by have := HK1.out; have := HJ5.out; first | omega | exact Nat.le_refl _⟩, by repeat (first | exact Drawn0.refl _ | apply Drawn0.step)⟩
          ·rw [if_neg c10] at H
           have c10b0 : decide (65 ≤ (bt a0 x7_1)) = false := decide_eq_false c10
           clear c10
           (first | rw [c10b0] | (simp only [i64_w, i32_w]; rw [c10b0]) | skip)
           have H' := Sd.mk H
           clear H
           go_wp2
           go_meet
           case rel => exact ⟨_, (false), ae, H', ⟨by have := HK1.out; have := HJ5.out; first | omega | exact Nat.le_refl _⟩, by repeat (first | exact Drawn0.refl _ | apply Drawn0.step)⟩
         case rest =>
          clear HC9
          obtain ⟨kq, x13_8, rfl, HA, HJ8, ⟨mc8, rfl⟩⟩ := hcut
          cases kq with
          | zero => exact absurd HA.out (by simp [lb_nameOK.j2])
          | succ kj8 =>
           have H := HA.out
           clear HA
           simp only [lb_nameOK.j2] at H
           by_cases c11 : x13_8 = true
           ·subst c11
            replace H := iT H
            have H' := Sd.mk H
            clear H
            go_wp2
            go_roundg kj8
            case measure => have := HK1.out; have := HJ5.out; have := HJ8.out; omega
            case rel => exact ⟨(wrap64 (x7_1 + 1)), ae, H', ⟨by have := HK1.out; have := HJ5.out; have := HJ8.out; omega⟩, by repeat (first | exact Drawn0.refl _ | apply Drawn0.step)⟩
           ·replace c11 := Bool.eq_false_iff.mpr c11
            subst c11
            replace H := iF H
            by_cases c12 : (bt a0 x7_1) = 95
            ·rw [if_pos c12] at H
             have c12b0 : ((bt a0 x7_1) == 95) = true := beq_iff_eq.mpr c12
             have c12b1 : ((bt a0 x7_1) != 95) = false := bne_eq_false_iff_eq.mpr c12
             clear c12
             have H' := Sd.mk H
             clear H
             go_wp2
             go_roundg kj8
             case measure => have := HK1.out; have := HJ5.out; have := HJ8.out; omega
             case rel => exact ⟨(wrap64 (x7_1 + 1)), ae, H', ⟨by have := HK1.out; have := HJ5.out; have := HJ8.out; omega⟩, by repeat (first | exact Drawn0.refl _ | apply Drawn0.step)⟩
            ·rw [if_neg c12] at H
             have c12b0 : ((bt a0 x7_1) == 95) = false := beq_eq_false_iff_ne.mpr c12
             have c12b1 : ((bt a0 x7_1) != 95) = true := bne_iff_ne.mpr c12
             by_cases c13 : x7_1 > 0
             ·rw [if_pos c13] at H
              have c13b0 : decide (0 < x7_1) = true := decide_eq_true c13
              clear c13
              by_cases c14 : (bt a0 x7_1) ≥ 48
              ·rw [if_pos c14] at H
               have c14b0 : decide (48 ≤ (bt a0 x7_1)) = true := decide_eq_true c14
               clear c14
               by_cases c15 : (bt a0 x7_1) ≤ 57
               ·rw [if_pos c15] at H
                have c15b0 : decide ((bt a0 x7_1) ≤ 57) = true := decide_eq_true c15
                clear c15
                have H' := Sd.mk H
                clear H
                go_wp2
                go_roundg kj8
                case measure => have := HK1.out; have := HJ5.out; have := HJ8.out; omega
                case rel => exact ⟨(wrap64 (x7_1 + 1)), ae, H', ⟨by have := HK1.out; have := HJ5.out; have := HJ8.out; omega⟩, by repeat (first | exact Drawn0.refl _ | apply Drawn0.step)⟩
               ·rw [if_neg c15] at H
                have c15b0 : decide ((bt a0 x7_1) ≤ 57) = false := decide_eq_false c15
                clear c15
                obtain rfl := Option.some.inj H
                go_wp2
                go_ret
                exact ⟨ae, by repeat (first | exact Drawn0.refl _ | apply Drawn0.step)⟩
              ·rw [if_neg c14] at H
               have c14b0 : decide (48 ≤ (bt a0 x7_1)) = false := decide_eq_false c14
               clear c14
               obtain rfl := Option.some.inj H
               go_wp2
               go_ret
               exact ⟨ae, by repeat (first | exact Drawn0.refl _ | apply Drawn0.step)⟩
             ·rw [if_neg c13] at H
              have c13b0 : decide (0 < x7_1) = false := decide_eq_false c13
              clear c13
              obtain rfl := Option.some.inj H
              go_wp2
              go_ret
              exact ⟨ae, by repeat (first | exact Drawn0.refl _ | apply Drawn0.step)⟩
     ·rw [if_neg c4] at H
      exact absurd H (by simp)
    ·rw [if_neg c3] at H
     exact absurd H (by simp)
   ·rw [if_neg c2] at H
    have c2b0 : decide (x7_1 < (a0.size : Int)) = false := decide_eq_false c2
    clear c2
    by_cases c16 : a0.toList = ([] : List UInt8)
    ·rw [if_pos c16] at H
     have c16b0 : (a0.toList == ([] : List UInt8)) = true := beq_iff_eq.mpr c16
     have c16b1 : (a0.toList != ([] : List UInt8)) = false := bne_eq_false_iff_eq.mpr c16
     clear c16
     obtain rfl := Option.some.inj H
     go_wp2
     go_ret
     exact ⟨ae, by repeat (first | exact Drawn0.refl _ | apply Drawn0.step)⟩
    ·rw [if_neg c16] at H
     have c16b0 : (a0.toList == ([] : List UInt8)) = false := beq_eq_false_iff_ne.mpr c16
     have c16b1 : (a0.toList != ([] : List UInt8)) = true := bne_iff_ne.mpr c16
     obtain rfl := Option.some.inj H
     go_wp2
     go_ret
     exact ⟨ae, by repeat (first | exact Drawn0.refl _ | apply Drawn0.step)⟩
def s_odd.f (a0_0 : Int) (a0_1 : Int) : Option (Bool) := if a0_0 = 2 then (some true) else (some (a0_0 == 3))
theorem s_odd.calls (a0_0 : Int) (a0_1 : Int) (r : Bool) (w : World) (h : s_odd.f a0_0 a0_1 = some r) :
  Calls Tryz.prog 37 #[.agg #[.int .i64 a0_0, .int .i64 a0_1]] w fun e w' => e = .returned (.bool r) ∧ Below w.heap.size w w' := by
 have hu25 := Tryz.underlying25
 have HB := Sd.mk (Below.refl w.heap.size w)
 have H : (if a0_0 = 2 then (some true) else (some (a0_0 == 3))) = some r := h
 clear h
 by_cases c2 : a0_0 = 2
 ·rw [if_pos c2] at H
  have c2b0 := beq_iff_eq.mpr c2
  have c2b1 := bne_eq_false_iff_eq.mpr c2
  clear c2
  obtain rfl := Option.some.inj H
  go_enter Tryz.func37, Tryz.ntmps37
  go_wp2_with (first | ((with_reducible refine gate_dst (N := 1) rfl ?_); refine bxe (N := 1) (cs := #[.int .i64 a0_0, .int .i64 a0_1]) (t := 25) ?_; intro gb490 hg w3 hbox hb; have BK490 := Sd.mk hbox; have GW490 := bge w hg; have GE490 := bge w hg; replace HB := bsq w hb; clear hb hbox hg; have hcz4_0 := bz0 BK490; have hcz4_1 := bz1 BK490; have hfz4_0 := blk_frozen BK490.out 0; have hfz4_1 := blk_frozen BK490.out 1))
  go_ret
  exact ⟨fe, bbl⟩
 ·rw [if_neg c2] at H
  have c2b0 := beq_eq_false_iff_ne.mpr c2
  have c2b1 := bne_iff_ne.mpr c2
  obtain rfl := Option.some.inj H
  go_enter Tryz.func37, Tryz.ntmps37
  go_wp2_with (first | ((with_reducible refine gate_dst (N := 1) rfl ?_); refine bxe (N := 1) (cs := #[.int .i64 a0_0, .int .i64 a0_1]) (t := 25) ?_; intro gb490 hg w5 hbox hb; have BK490 := Sd.mk hbox; have GW490 := bge w hg; have GE490 := bge w hg; replace HB := bsq w hb; clear hb hbox hg; have hcz6_0 := bz0 BK490; have hcz6_1 := bz1 BK490; have hfz6_0 := blk_frozen BK490.out 0; have hfz6_1 := blk_frozen BK490.out 1))
  go_ret
  exact ⟨fe, bbl⟩
def s_many.f (l0 : List (S39)) : Option (Int × Int) := (v_Num.f (wrap64 (1000 * (l0.length : Int)))).bind fun bt492 => (some (bt492.1, bt492.2))
theorem s_many.calls (A0 : Option Addr) (c0 : Nat) (l0 : List (S39)) (r1 : Int) (r2 : Int) (w : World) (hr0 : Kd.C k39 w A0 l0.length l0) (hc0 : l0.length ≤ c0) (h : s_many.f l0 = some (r1, r2)) :
  Calls Tryz.prog 38 #[.slice A0 l0.length c0] w fun e w' => e = .returned (.agg #[.int .i64 r1, .int .i64 r2]) ∧ Below w.heap.size w w' := by
 have hu25 := Tryz.underlying25
 have HR0 := Sd.mk hr0
 have HC0 := Sd.mk hc0
 clear hr0 hc0
 have HB := Sd.mk (Below.refl w.heap.size w)
 have H : ((v_Num.f (wrap64 (1000 * (l0.length : Int)))).bind fun bt492 => (some (bt492.1, bt492.2))) = some (r1, r2) := h
 clear h
 obtain ⟨⟨t492, t493⟩, A2, H⟩ := bnd H
 replace H : (some (t492, t493)) = some (r1, r2) := H
 simp only [Option.some.injEq, Prod.mk.injEq] at H
 obtain ⟨rfl, rfl⟩ := H
 go_enter Tryz.func38, Tryz.ntmps38
 go_wp2_with (first | ((with_reducible refine gate_dst (N := 2) rfl ?_); refine bxe (N := 2) (cs := #[.int .i64 0, .int .i64 0]) (t := 25) ?_; intro gb491 hg w3 hbox hb; have BK491 := Sd.mk hbox; have GW491 := bge w hg; have GE491 := bge w hg; replace HB := bsq w hb; clear hb hbox hg) | ((with_reducible refine gate_callee (f := 76) rfl ?_); refine goesL_ (some 6) rfl rfl Tryz.func76 (by kernel_rfl) rfl #[.int .i64 (wrap64 (1000 * (l0.length : Int)))] rfl ma ?_; (with_reducible refine (v_Num.calls (wrap64 (1000 * (l0.length : Int))) t492 t493 _ A2.out).mono ?_); rintro e w4 ⟨rfl, hb⟩; refine ⟨_, rfl, ?_⟩; replace BK491 := bkb BK491 hb; replace HB := bsq w hb; (try clear hb); have hcz5_0 := bz0 BK491; have hcz5_1 := bz1 BK491; have hfz5_0 := blk_frozen BK491.out 0; have hfz5_1 := blk_frozen BK491.out 1))
 refine bodyPost_ret (results_cell_row rfl _ _ gb491 25 #[.int .i64 t492, .int .i64 t493] (0, 0) _ rfl (by (repeat refine dw ?_); refine blk_put (cs := #[.int .i64 t492, .int .i64 0]) ?_ 1 _ rfl; (repeat refine dw ?_); refine blk_put (cs := #[.int .i64 0, .int .i64 0]) ?_ 0 _ rfl; (repeat refine dw ?_); exact BK491.out) Tryz.underlying25 rfl (by kernel_rfl)) rfl ?_
 exact ⟨fe, bbl⟩
def l10_num.f (a0 : Int) : Option (Int) := some a0
theorem l10_num.calls (a0 : Int) (r : Int) (w : World) (h : l10_num.f a0 = some r) :
  Calls Tryz.prog 12 #[.int .i64 a0] w fun e w' => e = .returned (.int .i64 r) ∧ Drawn0 w w' := by
 have H : (some a0) = some r := h
 clear h
 obtain rfl := Option.some.inj H
 go_enter Tryz.func12, Tryz.ntmps12
 go_wp2
 go_ret
 exact ⟨ae, by repeat (first | exact Drawn0.refl _ | apply Drawn0.step)⟩
def cmp_isNaN_int64.f (a0 : Int) : Option (Bool) := some (a0 != a0)
theorem cmp_isNaN_int64.calls (a0 : Int) (r : Bool) (w : World) (h : cmp_isNaN_int64.f a0 = some r) :
  Calls Tryz.prog 116 #[.int .i64 a0] w fun e w' => e = .returned (.bool r) ∧ Drawn0 w w' := by
 have H : (some (a0 != a0)) = some r := h
 clear h
 obtain rfl := Option.some.inj H
 go_enter Tryz.func116, Tryz.ntmps116
 go_wp2
 go_ret
 exact ⟨ae, by repeat (first | exact Drawn0.refl _ | apply Drawn0.step)⟩
def cmp_Compare_int64.f (a0 : Int) (a1 : Int) : Option (Int) := (cmp_isNaN_int64.f a0).bind fun t498 => ((cmp_isNaN_int64.f a1).bind fun t499 => (if t498 = true then (if t499 = true then (some 0) else (some (-1))) else (if t499 = true then (some 1) else (if a0 < a1 then (some (-1)) else (if a0 > a1 then (some 1) else (some 0))))))
theorem cmp_Compare_int64.calls (a0 : Int) (a1 : Int) (r : Int) (w : World) (h : cmp_Compare_int64.f a0 a1 = some r) :
  Calls Tryz.prog 80 #[.int .i64 a0, .int .i64 a1] w fun e w' => e = .returned (.int .i64 r) ∧ Drawn0 w w' := by
 have H : ((cmp_isNaN_int64.f a0).bind fun t498 => ((cmp_isNaN_int64.f a1).bind fun t499 => (if t498 = true then (if t499 = true then (some 0) else (some (-1))) else (if t499 = true then (some 1) else (if a0 < a1 then (some (-1)) else (if a0 > a1 then (some 1) else (some 0))))))) = some r := h
 clear h
 obtain ⟨t498, A3, H⟩ := bnd H
 obtain ⟨t499, A4, H⟩ := bnd H
 by_cases c5 : t498 = true
 ·subst c5
  replace H := iT H
  by_cases c6 : t499 = true
  ·subst c6
   replace H := iT H
   obtain rfl := Option.some.inj H
   go_enter Tryz.func80, Tryz.ntmps80
   go_wp2_with (first | ((with_reducible refine gate_callee (f := 116) rfl ?_); refine goesL_ (some 8) rfl rfl Tryz.func116 (by kernel_rfl) rfl #[.int .i64 a0] rfl ma ?_; (with_reducible refine (cmp_isNaN_int64.calls a0 true _ A3.out).mono ?_); rintro e w' ⟨rfl, ⟨nd, rfl⟩⟩; refine ⟨_, rfl, ?_⟩) | ((with_reducible refine gate_callee (f := 116) rfl ?_); refine goesL_ (some 10) rfl rfl Tryz.func116 (by kernel_rfl) rfl #[.int .i64 a1] rfl ma ?_; (with_reducible refine (cmp_isNaN_int64.calls a1 true _ A4.out).mono ?_); rintro e w' ⟨rfl, ⟨nd, rfl⟩⟩; refine ⟨_, rfl, ?_⟩))
   go_ret
   exact ⟨ae, by repeat (first | exact Drawn0.refl _ | apply Drawn0.step)⟩
  ·replace c6 := Bool.eq_false_iff.mpr c6
   subst c6
   replace H := iF H
   obtain rfl := Option.some.inj H
   go_enter Tryz.func80, Tryz.ntmps80
   go_wp2_with (first | ((with_reducible refine gate_callee (f := 116) rfl ?_); refine goesL_ (some 8) rfl rfl Tryz.func116 (by kernel_rfl) rfl #[.int .i64 a0] rfl ma ?_; (with_reducible refine (cmp_isNaN_int64.calls a0 true _ A3.out).mono ?_); rintro e w' ⟨rfl, ⟨nd, rfl⟩⟩; refine ⟨_, rfl, ?_⟩) | ((with_reducible refine gate_callee (f := 116) rfl ?_); refine goesL_ (some 10) rfl rfl Tryz.func116 (by kernel_rfl) rfl #[.int .i64 a1] rfl ma ?_; (with_reducible refine (cmp_isNaN_int64.calls a1 false _ A4.out).mono ?_); rintro e w' ⟨rfl, ⟨nd, rfl⟩⟩; refine ⟨_, rfl, ?_⟩))
   go_ret
   exact ⟨ae, by repeat (first | exact Drawn0.refl _ | apply Drawn0.step)⟩
 ·replace c5 := Bool.eq_false_iff.mpr c5
  subst c5
  replace H := iF H
  by_cases c7 : t499 = true
  ·subst c7
   replace H := iT H
   obtain rfl := Option.some.inj H
   go_enter Tryz.func80, Tryz.ntmps80
   go_wp2_with (first | ((with_reducible refine gate_callee (f := 116) rfl ?_); refine goesL_ (some 8) rfl rfl Tryz.func116 (by kernel_rfl) rfl #[.int .i64 a0] rfl ma ?_; (with_reducible refine (cmp_isNaN_int64.calls a0 false _ A3.out).mono ?_); rintro e w' ⟨rfl, ⟨nd, rfl⟩⟩; refine ⟨_, rfl, ?_⟩) | ((with_reducible refine gate_callee (f := 116) rfl ?_); refine goesL_ (some 10) rfl rfl Tryz.func116 (by kernel_rfl) rfl #[.int .i64 a1] rfl ma ?_; (with_reducible refine (cmp_isNaN_int64.calls a1 true _ A4.out).mono ?_); rintro e w' ⟨rfl, ⟨nd, rfl⟩⟩; refine ⟨_, rfl, ?_⟩))
   go_ret
   exact ⟨ae, by repeat (first | exact Drawn0.refl _ | apply Drawn0.step)⟩
  ·replace c7 := Bool.eq_false_iff.mpr c7
   subst c7
   replace H := iF H
   by_cases c8 : a0 < a1
   ·rw [if_pos c8] at H
    have c8b0 : decide (a0 < a1) = true := decide_eq_true c8
    clear c8
    obtain rfl := Option.some.inj H
    go_enter Tryz.func80, Tryz.ntmps80
    go_wp2_with (first | ((with_reducible refine gate_callee (f := 116) rfl ?_); refine goesL_ (some 8) rfl rfl Tryz.func116 (by kernel_rfl) rfl #[.int .i64 a0] rfl ma ?_; (with_reducible refine (cmp_isNaN_int64.calls a0 false _ A3.out).mono ?_); rintro e w' ⟨rfl, ⟨nd, rfl⟩⟩; refine ⟨_, rfl, ?_⟩) | ((with_reducible refine gate_callee (f := 116) rfl ?_); refine goesL_ (some 10) rfl rfl Tryz.func116 (by kernel_rfl) rfl #[.int .i64 a1] rfl ma ?_; (with_reducible refine (cmp_isNaN_int64.calls a1 false _ A4.out).mono ?_); rintro e w' ⟨rfl, ⟨nd, rfl⟩⟩; refine ⟨_, rfl, ?_⟩))
    go_ret
    exact ⟨ae, by repeat (first | exact Drawn0.refl _ | apply Drawn0.step)⟩
   ·rw [if_neg c8] at H
    have c8b0 : decide (a0 < a1) = false := decide_eq_false c8
    clear c8
    by_cases c9 : a0 > a1
    ·rw [if_pos c9] at H
     have c9b0 : decide (a1 < a0) = true := decide_eq_true c9
     clear c9
     obtain rfl := Option.some.inj H
     go_enter Tryz.func80, Tryz.ntmps80
     go_wp2_with (first | ((with_reducible refine gate_callee (f := 116) rfl ?_); refine goesL_ (some 8) rfl rfl Tryz.func116 (by kernel_rfl) rfl #[.int .i64 a0] rfl ma ?_; (with_reducible refine (cmp_isNaN_int64.calls a0 false _ A3.out).mono ?_); rintro e w' ⟨rfl, ⟨nd, rfl⟩⟩; refine ⟨_, rfl, ?_⟩) | ((with_reducible refine gate_callee (f := 116) rfl ?_); refine goesL_ (some 10) rfl rfl Tryz.func116 (by kernel_rfl) rfl #[.int .i64 a1] rfl ma ?_; (with_reducible refine (cmp_isNaN_int64.calls a1 false _ A4.out).mono ?_); rintro e w' ⟨rfl, ⟨nd, rfl⟩⟩; refine ⟨_, rfl, ?_⟩))
     go_ret
     exact ⟨ae, by repeat (first | exact Drawn0.refl _ | apply Drawn0.step)⟩
    ·rw [if_neg c9] at H
     have c9b0 : decide (a1 < a0) = false := decide_eq_false c9
     clear c9
     obtain rfl := Option.some.inj H
     go_enter Tryz.func80, Tryz.ntmps80
     go_wp2_with (first | ((with_reducible refine gate_callee (f := 116) rfl ?_); refine goesL_ (some 8) rfl rfl Tryz.func116 (by kernel_rfl) rfl #[.int .i64 a0] rfl ma ?_; (with_reducible refine (cmp_isNaN_int64.calls a0 false _ A3.out).mono ?_); rintro e w' ⟨rfl, ⟨nd, rfl⟩⟩; refine ⟨_, rfl, ?_⟩) | ((with_reducible refine gate_callee (f := 116) rfl ?_); refine goesL_ (some 10) rfl rfl Tryz.func116 (by kernel_rfl) rfl #[.int .i64 a1] rfl ma ?_; (with_reducible refine (cmp_isNaN_int64.calls a1 false _ A4.out).mono ?_); rintro e w' ⟨rfl, ⟨nd, rfl⟩⟩; refine ⟨_, rfl, ?_⟩))
     go_ret
     exact ⟨ae, by repeat (first | exact Drawn0.refl _ | apply Drawn0.step)⟩
def s_last_1.f (a0_0 : Int) (a0_1 : Int) (a0_2 : Int) (a1_0 : Int) (a1_1 : Int) (a1_2 : Int) : Option (Int) := (cmp_Compare_int64.f a0_0 a1_0).bind fun t502 => (some t502)
theorem s_last_1.calls (a0_0 : Int) (a0_1 : Int) (a0_2 : Int) (a1_0 : Int) (a1_1 : Int) (a1_2 : Int) (r : Int) (w : World) (h : s_last_1.f a0_0 a0_1 a0_2 a1_0 a1_1 a1_2 = some r) :
  Calls Tryz.prog 79 #[.agg #[.int .i64 a0_0, .int .i64 a0_1, .int .i64 a0_2], .agg #[.int .i64 a1_0, .int .i64 a1_1, .int .i64 a1_2]] w fun e w' => e = .returned (.int .i64 r) ∧ Below w.heap.size w w' := by
 have hu39 := Tryz.underlying39
 have HB := Sd.mk (Below.refl w.heap.size w)
 have H : ((cmp_Compare_int64.f a0_0 a1_0).bind fun t502 => (some t502)) = some r := h
 clear h
 obtain ⟨t502, A3, H⟩ := bnd H
 obtain rfl := Option.some.inj H
 go_enter Tryz.func79, Tryz.ntmps79
 go_wp2_with (first | ((with_reducible refine gate_dst (N := 2) rfl ?_); refine bxe (N := 2) (cs := #[.int .i64 a0_0, .int .i64 a0_1, .int .i64 a0_2]) (t := 39) ?_; intro gb500 hg w4 hbox hb; have BK500 := Sd.mk hbox; have GW500 := bge w hg; have GE500 := bge w hg; replace HB := bsq w hb; clear hb hbox hg) | ((with_reducible refine gate_dst (N := 3) rfl ?_); refine bxe (N := 3) (cs := #[.int .i64 a1_0, .int .i64 a1_1, .int .i64 a1_2]) (t := 39) ?_; intro gb501 hg w5 hbox hb; have BK501 := Sd.mk hbox; have GW501 := bge w hg; have GE501 := bge w hg; have NB500_501 := bnl BK500 hg; have NB501_500 := bng BK500 hg; replace BK500 := bkb BK500 hb; replace HB := bsq w hb; clear hb hbox hg; have hnb6 := NB500_501.out; have hnc6 := NB501_500.out; have hcz7_0 := bz0 BK500; have hcz7_1 := bz1 BK500; have hcz7_2 := bz2 BK500; have hfz7_0 := blk_frozen BK500.out 0; have hfz7_1 := blk_frozen BK500.out 1; have hfz7_2 := blk_frozen BK500.out 2; have hcz8_0 := bz0 BK501; have hcz8_1 := bz1 BK501; have hcz8_2 := bz2 BK501; have hfz8_0 := blk_frozen BK501.out 0; have hfz8_1 := blk_frozen BK501.out 1; have hfz8_2 := blk_frozen BK501.out 2) | ((with_reducible refine gate_callee (f := 80) rfl ?_); refine goesL_ (some 9) rfl rfl Tryz.func80 (by kernel_rfl) rfl #[.int .i64 a0_0, .int .i64 a1_0] rfl ma ?_; (with_reducible refine (cmp_Compare_int64.calls a0_0 a1_0 t502 _ A3.out).mono ?_); rintro e w' ⟨rfl, ⟨nd, rfl⟩⟩; refine ⟨_, rfl, ?_⟩))
 go_ret
 exact ⟨fe, bbl⟩
def v_Null.f  : Option (Int × Int) := some (2, 0)
theorem v_Null.calls  (r1 : Int) (r2 : Int) (w : World) (h : v_Null.f  = some (r1, r2)) :
  Calls Tryz.prog 39 #[] w fun e w' => e = .returned (.agg #[.int .i64 r1, .int .i64 r2]) ∧ Below w.heap.size w w' := by
 have hu25 := Tryz.underlying25
 have HB := Sd.mk (Below.refl w.heap.size w)
 have H : (some (2, 0)) = some (r1, r2) := h
 clear h
 simp only [Option.some.injEq, Prod.mk.injEq] at H
 obtain ⟨rfl, rfl⟩ := H
 go_enter Tryz.func39, Tryz.ntmps39
 go_wp2_with (first | ((with_reducible refine gate_dst (N := 0) rfl ?_); refine bxe (N := 0) (cs := #[.int .i64 0, .int .i64 0]) (t := 25) ?_; intro gb503 hg w1 hbox hb; have BK503 := Sd.mk hbox; have GW503 := bge w hg; have GE503 := bge w hg; replace HB := bsq w hb; clear hb hbox hg; have hcz2_0 := bz0 BK503; have hcz2_1 := bz1 BK503; have hfz2_0 := blk_frozen BK503.out 0; have hfz2_1 := blk_frozen BK503.out 1))
 refine bodyPost_ret (results_cell_row rfl _ _ gb503 25 #[.int .i64 2, .int .i64 0] (0, 0) _ rfl (by (repeat refine dw ?_); refine blk_put (cs := #[.int .i64 2, .int .i64 0]) ?_ 1 _ rfl; (repeat refine dw ?_); refine blk_put (cs := #[.int .i64 0, .int .i64 0]) ?_ 0 _ rfl; (repeat refine dw ?_); exact BK503.out) Tryz.underlying25 rfl (by kernel_rfl)) rfl ?_
 exact ⟨fe, bbl⟩
def lb_Make_1.f (k : Nat) (a0_0 : ByteArray) (a0_1 : ByteArray) : Option (Bool) := (lb_nameOK.f k a0_0).bind fun t505 => (if t505 = true then (if a0_1.toList = ([] : List UInt8) then (some true) else (some (decide ((a0_1.size : Int) > 128)))) else (some true))
theorem lb_Make_1.calls (k : Nat) (a0_0 : ByteArray) (a0_1 : ByteArray) (r : Bool) (w : World) (h : lb_Make_1.f k a0_0 a0_1 = some r) :
  Calls Tryz.prog 142 #[.agg #[.string a0_0, .string a0_1]] w fun e w' => e = .returned (.bool r) ∧ Below w.heap.size w w' := by
 have hu62 := Tryz.underlying62
 have HB := Sd.mk (Below.refl w.heap.size w)
 have H : ((lb_nameOK.f k a0_0).bind fun t505 => (if t505 = true then (if a0_1.toList = ([] : List UInt8) then (some true) else (some (decide ((a0_1.size : Int) > 128)))) else (some true))) = some r := h
 clear h
 obtain ⟨t505, A2, H⟩ := bnd H
 by_cases c3 : t505 = true
 ·subst c3
  replace H := iT H
  by_cases c4 : a0_1.toList = ([] : List UInt8)
  ·rw [if_pos c4] at H
   have c4b0 : (a0_1.toList == ([] : List UInt8)) = true := beq_iff_eq.mpr c4
   have c4b1 : (a0_1.toList != ([] : List UInt8)) = false := bne_eq_false_iff_eq.mpr c4
   clear c4
   obtain rfl := Option.some.inj H
   go_enter Tryz.func142, Tryz.ntmps142
   go_wp2_with (first | ((with_reducible refine gate_dst (N := 1) rfl ?_); (try (refine gate_guard (by rfl) ?_; dsimp only)); refine bxe (N := 1) (cs := #[.string a0_0, .string a0_1]) (t := 62) ?_; intro gb504 hg w5 hbox hb; have BK504 := Sd.mk hbox; have GW504 := bge w hg; have GE504 := bge w hg; replace HB := bsq w hb; clear hb hbox hg; have hcz6_0 := bz0 BK504; have hcz6_1 := bz1 BK504; have hfz6_0 := blk_frozen BK504.out 0; have hfz6_1 := blk_frozen BK504.out 1) | ((with_reducible refine gate_callee (f := 143) rfl ?_); refine goesL_ (some 5) rfl rfl Tryz.func143 (by kernel_rfl) rfl #[.string a0_0] rfl ma ?_; (with_reducible refine (lb_nameOK.calls k a0_0 true _ A2.out).mono ?_); rintro e w' ⟨rfl, ⟨nd, rfl⟩⟩; refine ⟨_, rfl, ?_⟩))
   go_ret
   exact ⟨fe, bbl⟩
  ·rw [if_neg c4] at H
   have c4b0 : (a0_1.toList == ([] : List UInt8)) = false := beq_eq_false_iff_ne.mpr c4
   have c4b1 : (a0_1.toList != ([] : List UInt8)) = true := bne_iff_ne.mpr c4
   obtain rfl := Option.some.inj H
   go_enter Tryz.func142, Tryz.ntmps142
   go_wp2_with (first | ((with_reducible refine gate_dst (N := 1) rfl ?_); (try (refine gate_guard (by rfl) ?_; dsimp only)); refine bxe (N := 1) (cs := #[.string a0_0, .string a0_1]) (t := 62) ?_; intro gb504 hg w7 hbox hb; have BK504 := Sd.mk hbox; have GW504 := bge w hg; have GE504 := bge w hg; replace HB := bsq w hb; clear hb hbox hg; have hcz8_0 := bz0 BK504; have hcz8_1 := bz1 BK504; have hfz8_0 := blk_frozen BK504.out 0; have hfz8_1 := blk_frozen BK504.out 1) | ((with_reducible refine gate_callee (f := 143) rfl ?_); refine goesL_ (some 5) rfl rfl Tryz.func143 (by kernel_rfl) rfl #[.string a0_0] rfl ma ?_; (with_reducible refine (lb_nameOK.calls k a0_0 true _ A2.out).mono ?_); rintro e w' ⟨rfl, ⟨nd, rfl⟩⟩; refine ⟨_, rfl, ?_⟩))
   go_ret
   exact ⟨fe, bbl⟩
 ·replace c3 := Bool.eq_false_iff.mpr c3
  subst c3
  replace H := iF H
  obtain rfl := Option.some.inj H
  go_enter Tryz.func142, Tryz.ntmps142
  go_wp2_with (first | ((with_reducible refine gate_dst (N := 1) rfl ?_); (try (refine gate_guard (by rfl) ?_; dsimp only)); refine bxe (N := 1) (cs := #[.string a0_0, .string a0_1]) (t := 62) ?_; intro gb504 hg w9 hbox hb; have BK504 := Sd.mk hbox; have GW504 := bge w hg; have GE504 := bge w hg; replace HB := bsq w hb; clear hb hbox hg; have hcz10_0 := bz0 BK504; have hcz10_1 := bz1 BK504; have hfz10_0 := blk_frozen BK504.out 0; have hfz10_1 := blk_frozen BK504.out 1) | ((with_reducible refine gate_callee (f := 143) rfl ?_); refine goesL_ (some 5) rfl rfl Tryz.func143 (by kernel_rfl) rfl #[.string a0_0] rfl ma ?_; (with_reducible refine (lb_nameOK.calls k a0_0 false _ A2.out).mono ?_); rintro e w' ⟨rfl, ⟨nd, rfl⟩⟩; refine ⟨_, rfl, ?_⟩))
  go_ret
  exact ⟨fe, bbl⟩
end Go.Proofs.YtcmiehddjgfjaaaGreat.A
namespace Go.Proofs.YtcmiehddjgfjaaaGreat.A.ColP
open Go Go.RowKit Go.Shelf Go.Maps Go.Proofs.YtcmiehddjgfjaaaGreatW.PrintWords Go.Proofs.YtcmiehddjgfjaaaGreatW.PrintLast Go.Proofs.YtcmiehddjgfjaaaGreatW.PrintMore
attribute [local go_sem] Oper.semAt_some
abbrev Rw := Int × Int × Int
def cl (x : Rw) : List Value := [.int .i64 x.1, .int .i64 x.2.1, .int .i64 x.2.2]
def z0 : Rw := (0, 0, 0)
abbrev encs (x : Rw) : Array Value := #[.agg #[.int .i64 x.1, .int .i64 x.2.1, .int .i64 x.2.2]]
/-- What has come when k rounds are over. -/
def upto {α : Type} (f : Nat → α) (k : Nat) : List α := (List.range k).map f
theorem upto_succ {α : Type} (f : Nat → α) (k : Nat) : upto f (k + 1) = upto f k ++ [f k] := by simp [upto, List.range_succ]
theorem upto_length {α : Type} (f : Nat → α) (k : Nat) : (upto f k).length = k := by simp [upto]
theorem upto_all (zs : List Rw) : upto (fun j => zs[j]?.getD z0) zs.length = zs := by
  apply List.ext_getElem
  · simp [upto]
  · intro i h1 h2
    simp [upto, h2]
/-- Row A holds zs. -/
def Holds (W : World) (ad : Addr) (zs : List Rw) : Prop := ∀ j, j < zs.length → W.cell? (ad.add (j * 3)) = some (.int .i64 (zs[j]?.getD z0).1) ∧ W.cell? ⟨(ad.add (j * 3)).block, (ad.add (j * 3)).off + 1, none⟩ = some (.int .i64 (zs[j]?.getD z0).2.1) ∧ W.cell? ⟨(ad.add (j * 3)).block, (ad.add (j * 3)).off + 2, none⟩ = some (.int .i64 (zs[j]?.getD z0).2.2)
theorem values1_in (F : Fence) (n : Nat) (h7 : F.fn 115) (hro : F.round = none) (hn : 1 ≤ n) (l Bs n₀ : Nat) (ad : Addr) (cap : Nat) (zs : List Rw) (hreach : zs.length * 24 ≤ 140737488355328) (hb : ad.block < n₀) (J Jx : List Rw → World → Prop) (B : Nat) (hJa : AbidesFrom B J)
    (hY : ∀ pre x W, J pre W → pre.length < zs.length → YieldAt F (n - 1) Tryz.prog l (encs x) W fun e W' =>
      (e = .returned (.bool true) ∧ J (pre ++ [x]) W' ∧ Below n₀ W W') ∨ (e = .returned (.bool false) ∧ Jx (pre ++ [x]) W'))
    (W : World) (hBs : W.cell? ⟨Bs, 0, none⟩ = some (.slice (some ad) zs.length cap)) (hc : Holds W ad zs) (hBn : n₀ ≤ W.heap.size) (h0 : J [] W) :
    CallsIn F n Tryz.prog 115 #[.func (.yield l) #[] #[], .pointer (some ⟨Bs, 0, none⟩)] W fun e W' => (∃ v, e = .returned v) ∧
      ((∃ ys, ys = upto (fun j => zs[j]?.getD z0) zs.length ∧ J ys W') ∨ (∃ pre, (∃ k, k ≤ zs.length ∧ pre = upto (fun j => zs[j]?.getD z0) k) ∧ Jx pre W')) := by
  refine callsIn_of_wp Tryz.func115 rfl h7 ?_ hro
  simp only [Tryz.ntmps115, List.size_toArray, List.length_cons, List.length_nil, Nat.reduceAdd, Nat.reduceSub, Array.replicate_succ, Array.replicate_zero, List.push_toArray, List.append_toArray, List.nil_append, List.cons_append]
  gi_wp2
  gi_loopw [7] (fun i wr => ∃ k : Nat, k ≤ zs.length ∧ i = .int .i64 k ∧ J (upto (fun j => zs[j]?.getD z0) k) wr ∧ Below n₀ W wr)
    (fun i _ => zs.length - (intOf i).toNat)
  case atStart => exact ⟨0, Nat.zero_le _, rfl, h0, Below.refl _ _⟩
  case round =>
    obtain ⟨k, hk, rfl, hJs, hnx⟩ := hrel
    by_cases hlt : k < zs.length
    · obtain ⟨c0, c1, c2⟩ := hc k hlt
      have q0 := (hnx.cell (p := ad.add (k * 3)) (by rw [add_block]; exact hb)).trans c0
      have q1 := (hnx.cell (p := ⟨(ad.add (k * 3)).block, (ad.add (k * 3)).off + 1, none⟩) (by show (ad.add (k * 3)).block < n₀; rw [add_block]; exact hb)).trans c1
      have q2 := (hnx.cell (p := ⟨(ad.add (k * 3)).block, (ad.add (k * 3)).off + 2, none⟩) (by show (ad.add (k * 3)).block < n₀; rw [add_block]; exact hb)).trans c2
      clear c0 c1 c2
      obtain ⟨x, hx⟩ : ∃ x, zs[k]?.getD z0 = x := ⟨_, rfl⟩
      rw [hx] at q0 q1 q2
      obtain ⟨y0, y1, y2⟩ := x
      simp only at q0 q1 q2
      have hJw : J (upto (fun j => zs[j]?.getD z0) k) (wr.alloc (.cells #[.int .i64 y0, .int .i64 y1, .int .i64 y2] 39)) := hJa _ _ _ _ hJs (World.grownBy_alloc wr _ none) (fun r e => by cases e)
      obtain ⟨fn, tmps, assign, body, hy, hR⟩ := hY _ (y0, y1, y2) _ hJw (by rw [upto_length]; exact hlt)
      have HX := Sd.mk hx
      clear hx
      gi_wp2
      refine hR.mono ?_
      rintro e W3 (⟨rfl, hJ3, hk3⟩ | ⟨rfl, hJx3⟩)
      · gi_wp2
        go_roundw
        case rel => exact ⟨k + 1, by omega, by simp, by rw [upto_succ, HX.out]; exact hJ3, (hnx.alloc (by have := hnx.size; omega) _).trans hk3⟩
        case measure => simp [intOf]; omega
      · gi_wp2
        refine bodyPost_ret (results_none rfl _ _ _) rfl ?_
        exact ⟨⟨_, rfl⟩, .inr ⟨_, ⟨k + 1, by omega, by rw [upto_succ, HX.out]⟩, hJx3⟩⟩
    · obtain rfl : k = zs.length := by omega
      gi_wp2
      go_end0
      exact ⟨⟨_, rfl⟩, .inl ⟨_, rfl, hJs⟩⟩
theorem upto_take (zs : List Rw) {k : Nat} (hk : k ≤ zs.length) : upto (fun j => zs[j]?.getD z0) k = zs.take k := by
  apply List.ext_getElem
  · simp [upto, hk]
  · intro i h1 h2
    have : i < zs.length := by simp [upto] at h1; omega
    simp [upto, this]
/-- .. at no element: no round. -/
theorem values1_nil_in (F : Fence) (n : Nat) (h7 : F.fn 115) (hro : F.round = none) (l Bs : Nat) (A : Option Addr) (c : Nat) (J : List Rw → World → Prop) (W : World) (hBs : W.cell? ⟨Bs, 0, none⟩ = some (.slice A 0 c)) (h0 : J [] W) :
    CallsIn F n Tryz.prog 115 #[.func (.yield l) #[] #[], .pointer (some ⟨Bs, 0, none⟩)] W fun e W' => (∃ v, e = .returned v) ∧ J [] W' := by
  refine callsIn_of_wp Tryz.func115 rfl h7 ?_ hro
  simp only [Tryz.ntmps115, List.size_toArray, List.length_cons, List.length_nil, Nat.reduceAdd, Nat.reduceSub, Array.replicate_succ, Array.replicate_zero, List.push_toArray, List.append_toArray, List.nil_append, List.cons_append]
  gi_wp2
  gi_loopw [7] (fun i wr => i = .int .i64 0 ∧ J [] wr) (fun _ _ => 0)
  case atStart => exact ⟨rfl, h0⟩
  case round =>
    obtain ⟨rfl, hJs⟩ := hrel
    gi_wp2
    go_end0
    exact ⟨⟨_, rfl⟩, hJs⟩
/-- slices.Values: the slice value is boxed; the function value captures the box. -/
theorem values_in (F : Fence) (n : Nat) (h5 : F.fn 78) (hro : F.round = none) (a : Option Addr) (len cap : Nat) (w : World) :
    CallsIn F n Tryz.prog 78 #[.slice a len cap] w fun e w' => e = .returned (.func (.func 115) #[] #[.pointer (some ⟨w.heap.size, 0, none⟩)]) ∧ w' = w.alloc (.cells #[.slice a len cap] 22) := by
  refine callsIn_of_wp Tryz.func78 rfl h5 ?_ hro
  simp only [Tryz.ntmps78, List.size_toArray, List.length_cons, List.length_nil, Nat.reduceAdd, Nat.reduceSub, Array.replicate_succ, Array.replicate_zero, List.push_toArray, List.append_toArray, List.nil_append, List.cons_append]
  gi_wp2
  go_ret
  exact ⟨rfl, rfl⟩
/-- A row of cells below n₀ (or none). -/
def Row (n₀ : Nat) (W : World) (A : Option Addr) (zs : List Rw) : Prop := zs = [] ∨ ∃ ad, A = some ad ∧ ad.block < n₀ ∧ Holds W ad zs
theorem Row.below {n₀ : Nat} {X Y : World} (h : Below n₀ X Y) {A : Option Addr} {zs : List Rw} : Row n₀ X A zs → Row n₀ Y A zs
  | .inl e => .inl e
  | .inr ⟨ad, e, hb, hc⟩ => .inr ⟨ad, e, hb, fun j hj => by
    obtain ⟨c0, c1, c2⟩ := hc j hj
    exact ⟨(h.cell (p := ad.add (j * 3)) (by rw [add_block]; exact hb)).trans c0, (h.cell (p := ⟨(ad.add (j * 3)).block, (ad.add (j * 3)).off + 1, none⟩) (by show (ad.add (j * 3)).block < n₀; rw [add_block]; exact hb)).trans c1, (h.cell (p := ⟨(ad.add (j * 3)).block, (ad.add (j * 3)).off + 2, none⟩) (by show (ad.add (j * 3)).block < n₀; rw [add_block]; exact hb)).trans c2⟩⟩
/-- slices.Values hands back a value that gives the row's elements, in order. -/
theorem values_stops (F : Fence) (n : Nat) (h7 : F.fn 115) (hro : F.round = none) (hn : 1 ≤ n) (Bs n₀ : Nat) (A : Option Addr) (cap : Nat) (zs : List Rw) (hreach : zs.length * 24 ≤ 140737488355328) (w : World) (hBs : Bs < w.heap.size) (hn₀ : n₀ ≤ w.heap.size)
    (hc : w.cell? ⟨Bs, 0, none⟩ = some (.slice A zs.length cap)) (hI : Row n₀ w A zs) :
    SeqStopsK F n Tryz.prog 115 #[.pointer (some ⟨Bs, 0, none⟩)] encs (Below n₀) (fun ys => ys = zs) (fun pre => pre <+: zs) zs.length w := fun l J Jx W hW hJa _ hY h0 => by
  have hc' := (hW.cell (p := ⟨Bs, 0, none⟩) hBs).trans hc
  rcases hI.below (hW.mono hn₀) with rfl | ⟨ad, rfl, hb, hcs⟩
  · exact (values1_nil_in F n h7 hro l Bs A cap J W hc' h0).mono fun e W' ⟨he, hj⟩ => ⟨he, .inl ⟨_, rfl, hj⟩⟩
  · refine (values1_in F n h7 hro hn l Bs n₀ ad cap zs hreach hb J Jx _ hJa hY W hc' hcs (Nat.le_trans hn₀ hW.size) h0).mono ?_
    rintro e W' ⟨he, ⟨ys, rfl, hj⟩ | ⟨pre, ⟨k, hk, rfl⟩, hj⟩⟩
    · exact ⟨he, .inl ⟨_, upto_all zs, hj⟩⟩
    · exact ⟨he, .inr ⟨_, by rw [upto_take zs hk]; exact List.take_prefix _ _, hj⟩⟩
def flat (zs : List Rw) : List Value := zs.flatMap cl
theorem flat_snoc (zs : List Rw) (x : Rw) : flat (zs ++ [x]) = flat zs ++ cl x := by simp [flat]
theorem cells_new (W : World) (x : Rw) (t : TypeId) : ∀ (j : Nat) (u : Value), (cl x)[j]? = some u → (W.alloc (.cells #[.int .i64 x.1, .int .i64 x.2.1, .int .i64 x.2.2] t)).cell? ((⟨W.heap.size, 0, none⟩ : Addr).add j) = some u := by
  intro j u hu
  have h := blk_cell (blk_new W (.cells #[.int .i64 x.1, .int .i64 x.2.1, .int .i64 x.2.2] t)) j
  rw [add_at, Nat.zero_add, h]
  match j, hu with
  | 0, hu => exact hu
  | 1, hu => exact hu
  | 2, hu => exact hu
  | j + 3, hu => simp [cl] at hu
theorem cl_one (x : Rw) : ∀ u ∈ cl x, u.oneCell' = true := by
  intro u hu
  simp only [cl, List.mem_cons, List.not_mem_nil, or_false] at hu
  rcases hu with rfl | rfl | rfl <;> rfl
/-- A loop variable's box. -/
def VBox (W : World) (Bx : Nat) (x : Rw) : Prop := W.heap[Bx]? = some (.cells #[.int .i64 x.1, .int .i64 x.2.1, .int .i64 x.2.2] 39 (0, 0))
theorem appendSeq_in (F : Fence) (n : Nat) (h145 : F.fn 155) (h90 : F.fn 115) (hro : F.round = none) (hn : 2 ≤ n) (Bs : Nat) (A : Option Addr) (cap : Nat) (zs : List Rw) (hreach : zs.length * 24 ≤ 140737488355328) (w : World) (hBs : Bs < w.heap.size)
    (hc : w.cell? ⟨Bs, 0, none⟩ = some (.slice A zs.length cap)) (hI : Row w.heap.size w A zs) :
    CallsIn F n Tryz.prog 155 #[.slice none 0 0, .func (.func 115) #[] #[.pointer (some ⟨Bs, 0, none⟩)]] w fun e W' => ∃ v, e = .returned v ∧ W'.ownsRow w.heap.size 39 3 v zs.length (flat zs) ∧ Below w.heap.size w W' := by
  have h1 : 1 ≤ n := by omega
  obtain ⟨i0, hi, hz0, hz1, hz2⟩ := info_parts info39
  refine callsIn_of_wp_marks Tryz.func155 rfl h145 ?_ hro
  simp only [Tryz.ntmps155, List.size_toArray, List.length_cons, List.length_nil, Nat.reduceAdd, Nat.reduceSub, Array.replicate_succ, Array.replicate_zero, List.push_toArray, List.append_toArray, List.nil_append, List.cons_append]
  gi_wp2
  have bS := Boxed.new w 22 (.slice none 0 0)
  have hB0 : Below w.heap.size w (w.alloc (.cells #[.slice none 0 0] 22)) := (Below.refl _ w).alloc (Nat.le_refl _) _
  refine wpIn_rangeFunc_ownH hro h1 (gf := 115) (lb := #[.pointer (some ⟨Bs, 0, none⟩)]) rfl h90 (enters_of Tryz.func115 (by kernel_rfl) rfl)
    (values_stops F (n - 1) h90 hro (by omega) Bs w.heap.size A cap zs hreach _ (by simp; omega) (by simp) ((hB0.cell (p := ⟨Bs, 0, none⟩) hBs).trans hc) (hI.below hB0)) belowK_t (belowK_b (by simp)) (Below.refl _ _) (fun _ => rfl)
    (fun pre W => (∃ v, Boxed W w.heap.size 22 v ∧ W.ownsRow w.heap.size 39 3 v pre.length (flat pre) ∧ True) ∧ Below w.heap.size w W)
    (fun _ _ _ => False)
    (OwnFrom.and (Own.from (holdsRow_own w.heap.size w.heap.size 22 39 3 (fun pre : List Rw => pre.length) (fun pre => flat pre) (fun _ _ => True)) _) (ownFrom_below (Nat.le_refl _) (by simp)))
    (fun _ _ _ _ _ hs _ _ => hs)
    ⟨⟨_, bS, World.ownsRow_nil _ _ _ _, trivial⟩, hB0⟩
    (fun x a' W => ∃ Bx, w.heap.size < Bx ∧ VBox W Bx x ∧ a' = { tmps := #[.slice none 0 0, .func (.func 115) #[] #[.pointer (some ⟨Bs, 0, none⟩)], .pointer (some ⟨w.heap.size, 0, none⟩), undef, .slice none 0 0, .pointer (some ⟨Bx, 0, none⟩), .func (.func 115) #[] #[.pointer (some ⟨Bs, 0, none⟩)], .agg #[.int .i64 x.1, .int .i64 x.2.1, .int .i64 x.2.2], undef, undef, undef, undef, undef], defers := [] })
    (fun x a' _ W W' row hs hg hr => by
      obtain ⟨Bx, hB, hv, he⟩ := hs
      refine ⟨Bx, hB, (hg.block Bx (Array.getElem?_eq_some_iff.1 hv).1 (fun e => ?_)).trans hv, he⟩
      obtain ⟨_, o, ho, hoc⟩ := hr Bx e.symm
      rw [hv] at ho
      cases ho
      cases hoc) ?assign ?body ?done ?stop
  case assign =>
    rintro l pre x W K ⟨⟨v, hv, hrow, _⟩, hB⟩ hK
    obtain ⟨y0, y1, y2⟩ := x
    gi_wp2
    exact hK _ _ ((KeepsOthers.alloc _ _).from _) ((Below.refl _ W).alloc hB.size _) ⟨⟨v, hv.alloc _, hrow.alloc _, trivial⟩, hB.alloc hB.size _⟩ ⟨W.heap.size, hv.lt, blk_new W _, rfl⟩
  case body =>
    rintro l pre x a' W hl ⟨r, hr⟩ ⟨⟨v, hv, hrow, _⟩, hB⟩ ⟨Bx, hBx, hvx, rfl⟩ hlt
    obtain ⟨y0, y1, y2⟩ := x
    have b0 := (blk_cell hvx 0).trans rfl
    have b1 := (blk_cell hvx 1).trans rfl
    have b2 := (blk_cell hvx 2).trans rfl
    have hvc := hv.cell
    have hvf := hv.frozen
    have hle : w.heap.size ≤ W.heap.size := hB.size
    gi_wp2_with (gi_at_builtin; refine wpListIn_append_own _ rfl _ _ 22 rfl w.heap.size 39 i0 _ 3 24 Tryz.underlying22 hi hz0 hz1 hz2 rfl (by decide) _ _ _ rfl (hrow.alloc _) ⟨W.heap.size, 0, none⟩ 1 1 (cl (y0, y1, y2)) rfl rfl (cells_new W (y0, y1, y2) _) (cl_one _) (by unfold maxLen; omega) (by omega) (by simp; omega) ?_; intro v' w1 hown' hgrow _; obtain ⟨g', cap', rfl⟩ := ownsRow_succ hown'; obtain ⟨hv1, hv2, hr2, hk2, hb2⟩ := hv.appended (by decide) hrow hB.size (Nat.le_refl _) hown' hgrow; have hc1 := hv1.cell; have hf1 := hv1.frozen)
    exact ⟨hk2.from _, hb2, ⟨_, hv2, by rw [flat_snoc, List.length_append]; exact hr2⟩, hB.trans hb2⟩
  case done =>
    rintro D ys W hD rfl ⟨⟨v, hv, hrow, _⟩, hB⟩ hK
    have hvc := hv.cell
    gi_wp2
    refine ⟨by simp, .inl ⟨_, _, rfl, run_takeDeferred hK, ?_⟩⟩
    exact ⟨_, results_tmp rfl _ _ _, v, rfl, ownsRow_putObj hrow _ hK rfl, hB.trans (belowK_b (w := w) (Nat.le_refl _) W D _ _ (by simp at hD; omega) hK rfl rfl)⟩
  case stop =>
    rintro D c pre W _ _ h _
    exact h.elim
end Go.Proofs.YtcmiehddjgfjaaaGreat.A.ColP
namespace Go.Proofs.YtcmiehddjgfjaaaGreat.St
open Go.Proofs Go.Shelf Go.RowKit Go.Lib Go.Sort
variable {P : Program} {α : Type} [Inhabited α] {enc : α → List Value} {k : Nat} {w0 W : World} {blk off : Nat} {dk : Array α}
theorem aside {p : Prop} (h : p) : Aside p := h
/-- W but for how often was drawn. -/
def undrawn (W : World) (n : Nat) : World := { W with drawn := n }
/-- W is a world of the sort's, but for how often was drawn. -/
def SB (enc : α → List Value) (k : Nat) (w0 : World) (blk off : Nat) (dk : Array α) (W : World) : Prop := ∃ n, SWK enc k w0 blk off dk (undrawn W n)
theorem SB.start (h : HoldsK enc k w0 blk off dk) : SB enc k w0 blk off dk w0 := ⟨w0.drawn, SWK.start h⟩
theorem SB.drewN (h : SB enc k w0 blk off dk W) (q : Nat) : SB enc k w0 blk off dk (W.drewN q) := by
  obtain ⟨n, h⟩ := h
  exact ⟨n, h⟩
theorem SB.drew (h : SB enc k w0 blk off dk W) : SB enc k w0 blk off dk W.drew := h.drewN 1
theorem grow_of_below {w w' : World} (h : Below w.heap.size w w') (n : Nat) : undrawn w' n = grow (undrawn w n) (w'.heap.extract w.heap.size w'.heap.size) := by
  have e : w'.heap = w.heap ++ w'.heap.extract w.heap.size w'.heap.size := by
    apply Array.ext_getElem?
    intro i
    by_cases hi : i < w.heap.size
    · rw [h.block i hi, Array.getElem?_append_left hi]
    · rw [Array.getElem?_append_right (by omega), Array.getElem?_extract]
      by_cases h2 : i < w'.heap.size
      · rw [if_pos (by omega)]; congr 1; omega
      · rw [if_neg (by omega), Array.getElem?_eq_none (by omega)]
  have h1 := h.os; have h2 := h.tape; have h3 := h.output
  unfold undrawn grow
  cases w; cases w'
  simp only at h1 h2 h3 e ⊢
  subst h1; subst h2; subst h3
  rw [← e]
theorem SB.below {w' : World} (h : SB enc k w0 blk off dk W) (hb : Below W.heap.size W w') : SB enc k w0 blk off dk w' := by
  obtain ⟨n, m, os, h⟩ := h
  refine ⟨n, m, os ++ w'.heap.extract W.heap.size w'.heap.size, ?_⟩
  rw [grow_of_below hb n, h]
  unfold sortWorldK
  rw [grow_grow]
theorem undrawn_setCells (b n : Nat) : ∀ (vs : List Value) (o : Nat) (W : World), undrawn (W.setCells b o vs) n = (undrawn W n).setCells b o vs
  | [], o, W => rfl
  | v :: vs, o, W => by rw [World.setCells, World.setCells, undrawn_setCells b n vs]; rfl
variable {d0 : Array α}
theorem SB.holds (h : SB enc k w0 blk off dk W) (R : RowK enc k w0 blk off d0) (hs : dk.size = d0.size) : HoldsK enc k W blk off dk := by
  obtain ⟨n, h⟩ := h
  exact h.holds R.hblk R.hH hs
theorem SB.load (h : SB enc k w0 blk off dk W) (R : RowK enc k w0 blk off d0) (hs : dk.size = d0.size) (P : Program) (i : Nat) (hi : i < dk.size) :
    Sem.run P (loadCellsFrom ⟨blk, off + i * k, none⟩ 0 k #[]) W = .ok (enc dk[i]!).toArray W :=
  run_loadCellsFrom_list P _ _ _ k (R.hk _) (HoldsK.cells (h.holds R hs) R.hk hi)
theorem SB.ld1 (h : SB enc k w0 blk off dk W) (R : RowK enc k w0 blk off d0) (hs : dk.size = d0.size) (P : Program) (i : Nat) (hi : i < dk.size) :
    Sem.run P (loadCellsFrom ⟨blk, off + i * k, none⟩ 0 k #[]) W.drew = .ok (enc dk[i]!).toArray W.drew := h.drew.load R hs P i hi
theorem SB.st1 (h : SB enc k w0 blk off dk W) (R : RowK enc k w0 blk off d0) (hs : dk.size = d0.size) (P : Program) (i : Nat) (hi : i < dk.size) (y : α) :
    Sem.run P (storeCells ⟨blk, off + i * k, none⟩ (enc y) 0) W.drew = .ok () (W.drew.setCells blk (off + i * k) (enc y)) :=
  stores_of_holds P (h.drew.holds R hs) (i * k) _ (by rw [R.hk, size_flatK]; exact rowK_bnd dk k i hi) (R.h1 _)
theorem SB.st2 (h : SB enc k w0 blk off dk W) (R : RowK enc k w0 blk off d0) (hs : dk.size = d0.size) (P : Program) (i j : Nat) (hi : i < dk.size) (hj : j < dk.size) (y x : α) :
    Sem.run P (storeCells ⟨blk, off + j * k, none⟩ (enc x) 0) (W.drew.setCells blk (off + i * k) (enc y)) = .ok () ((W.drew.setCells blk (off + i * k) (enc y)).setCells blk (off + j * k) (enc x)) :=
  stores_of_holds P (holds_setCells_c (h.drew.holds R hs) (i * k) _ (by rw [R.hk, size_flatK]; exact rowK_bnd dk k i hi)) (j * k) _ (by rw [R.hk, size_setMany, size_flatK]; exact rowK_bnd dk k j hj) (R.h1 _)
theorem SB.swapped (h : SB enc k w0 blk off dk W) (R : RowK enc k w0 blk off d0) (i j : Nat) (hi : i < dk.size) (hj : j < dk.size) :
    SB enc k w0 blk off (swp dk i j) ((W.drew.setCells blk (off + i * k) (enc dk[j]!)).setCells blk (off + j * k) (enc dk[i]!)) := by
  obtain ⟨n, h⟩ := h
  refine ⟨n, ?_⟩
  rw [undrawn_setCells, undrawn_setCells]
  exact h.swap R.hk R.hblk i j hi hj
/-- A world of the class, under one name (for the class of worlds of a region that only reads and calls). -/
structure SBW (enc : α → List Value) (k : Nat) (w0 : World) (blk off : Nat) (dk : Array α) where
  w : World
  h : SB enc k w0 blk off dk w
/-- What the sort is told of 'cmp'. -/
def CmpB (P : Program) (g : Nat) (cb : Array Value) (enc : α → List Value) (k : Nat) (cf : α → α → Int) (blk off size : Nat) (w0 : World) : Prop :=
  ∀ (dk : Array α) (W : World), dk.size = size → SB enc k w0 blk off dk W → ∀ x y : α,
    Calls P g (#[.agg (enc x).toArray, .agg (enc y).toArray] ++ cb) W fun e w' => e = .returned (.int .i64 (cf x y)) ∧ Below W.heap.size W w'
/-- The test's call, met in a world of the class. -/
theorem CmpB.at {g : Nat} {cb : Array Value} {cf : α → α → Int} {size : Nat} (hC : CmpB P g cb enc k cf blk off size w0) (p : SBW enc k w0 blk off dk) (hs : dk.size = size) (x y : α) :
    Calls P g (#[.agg (enc x).toArray, .agg (enc y).toArray] ++ cb) p.w fun e w' => e = .returned (.int .i64 (cf x y)) ∧ ∃ q : SBW enc k w0 blk off dk, w' = q.w :=
  (hC dk p.w hs p.h x y).mono fun _ _ ⟨he, hb⟩ => ⟨he, ⟨_, p.h.below hb⟩, rfl⟩
/-- A region whose operations only read, and whose callees lay blocks at most: one walk, in the order of the text, in whatever world of the class. -/
theorem wp_region_sb {id : Nat} {Q : Exit → Act → World → Prop} {a : Act} {w : World} {l : List Oper} (hS : SB enc k w0 blk off dk w) (hm : P.follows .mixedOrders = true) (hB : Region.lexB .any l.toArray = true)
    (h : wpQuiet P l.toArray (fun w' => ∃ p : SBW enc k w0 blk off dk, w' = p.w) (fun a' => ∀ w', (∃ p : SBW enc k w0 blk off dk, w' = p.w) → Q .normal a' w') l a) : (Code.region id l.toArray true).wp P Q a w :=
  wp_region_quiet (C := fun w' => ∃ p : SBW enc k w0 blk off dk, w' = p.w) hm hB ⟨⟨_, hS.drew⟩, rfl⟩ (by simpa using h)
end Go.Proofs.YtcmiehddjgfjaaaGreat.St
namespace Go.Proofs.YtcmiehddjgfjaaaGreat.Stable
section
variable {α : Type}
/-- 'lt' orders, up to equals. -/
structure Ord (lt : α → α → Bool) : Prop where
  trans : ∀ a b c, lt a b = true → lt b c = true → lt a c = true
  skip : ∀ z x y, lt z x = true → lt y x = false → lt z y = true
  asym : ∀ a b, lt a b = true → lt b a = false
variable (lt : α → α → Bool)
/-- Two lists in one; of equals the first list's come first. -/
def merge : List α → List α → List α
  | [], v => v
  | x :: u, [] => x :: u
  | x :: u, y :: v => if lt y x = true then y :: merge (x :: u) v else x :: merge u (y :: v)
theorem merge_nil (u : List α) : merge lt u [] = u := by cases u <;> rw [merge]
theorem nil_merge (v : List α) : merge lt [] v = v := by rw [merge]
theorem merge_length : ∀ u v : List α, (merge lt u v).length = u.length + v.length
  | [], v => by rw [merge]; simp
  | x :: u, [] => by rw [merge]; simp
  | x :: u, y :: v => by
    rw [merge]
    split
    · rw [List.length_cons, merge_length (x :: u) v]; simp; omega
    · rw [List.length_cons, merge_length u (y :: v)]; simp; omega
variable {lt}
theorem merge_assoc (h : Ord lt) : ∀ a b c : List α, merge lt (merge lt a b) c = merge lt a (merge lt b c)
  | [], b, c => by rw [merge, merge]
  | x :: a, [], c => by rw [merge, merge]
  | x :: a, y :: b, [] => by rw [merge_nil, merge_nil]
  | x :: a, y :: b, z :: c => by
    cases hyx : lt y x with
    | false =>
      cases hzx : lt z x with
      | true =>
        have hzy := h.skip z x y hzx hyx
        have e := merge_assoc h (x :: a) (y :: b) c
        have l1 : merge lt (x :: a) (y :: b) = x :: merge lt a (y :: b) := by rw [merge, if_neg (by simp [hyx])]
        have r1 : merge lt (y :: b) (z :: c) = z :: merge lt (y :: b) c := by rw [merge, if_pos hzy]
        rw [l1, merge, if_pos hzx, r1, merge, if_pos hzx, ← l1, e]
      | false =>
        have e := merge_assoc h a (y :: b) (z :: c)
        have l1 : merge lt (x :: a) (y :: b) = x :: merge lt a (y :: b) := by rw [merge, if_neg (by simp [hyx])]
        rw [l1, merge, if_neg (by simp [hzx]), e]
        cases hzy : lt z y with
        | true =>
          have r1 : merge lt (y :: b) (z :: c) = z :: merge lt (y :: b) c := by rw [merge, if_pos hzy]
          rw [r1, merge, if_neg (by simp [hzx])]
        | false =>
          have r1 : merge lt (y :: b) (z :: c) = y :: merge lt b (z :: c) := by rw [merge, if_neg (by simp [hzy])]
          rw [r1, merge, if_neg (by simp [hyx])]
    | true =>
      have l1 : merge lt (x :: a) (y :: b) = y :: merge lt (x :: a) b := by rw [merge, if_pos hyx]
      cases hzy : lt z y with
      | true =>
        have hzx := h.trans z y x hzy hyx
        have e := merge_assoc h (x :: a) (y :: b) c
        have r1 : merge lt (y :: b) (z :: c) = z :: merge lt (y :: b) c := by rw [merge, if_pos hzy]
        rw [l1, merge, if_pos hzy, r1, merge, if_pos hzx, ← l1, e]
      | false =>
        have e := merge_assoc h (x :: a) b (z :: c)
        have r1 : merge lt (y :: b) (z :: c) = y :: merge lt b (z :: c) := by rw [merge, if_neg (by simp [hzy])]
        rw [l1, merge, if_neg (by simp [hzy]), r1, merge, if_pos hyx, e]
termination_by a b c => a.length + b.length + c.length
theorem merge_split : ∀ (u1 v1 u2 v2 : List α), (∀ x ∈ u1, ∀ y ∈ v2, lt y x = false) → (∀ y ∈ v1, ∀ x ∈ u2, lt y x = true) → merge lt (u1 ++ u2) (v1 ++ v2) = merge lt u1 v1 ++ merge lt u2 v2
  | [], [], u2, v2, _, _ => by rw [merge]; rfl
  | x :: u1, [], u2, v2, h1, h2 => by
    have ih := merge_split u1 [] u2 v2 (fun a ha => h1 a (List.mem_cons_of_mem _ ha)) h2
    rw [List.nil_append] at ih ⊢
    rw [merge_nil] at ih ⊢
    cases v2 with
    | nil => rw [merge_nil, merge_nil]
    | cons y v2 =>
      rw [List.cons_append, merge, if_neg (by rw [h1 x List.mem_cons_self y List.mem_cons_self]; simp), ih]; rfl
  | [], y :: v1, u2, v2, h1, h2 => by
    have ih := merge_split [] v1 u2 v2 h1 (fun a ha => h2 a (List.mem_cons_of_mem _ ha))
    rw [List.nil_append] at ih ⊢
    rw [nil_merge] at ih ⊢
    cases u2 with
    | nil => rw [nil_merge, nil_merge]
    | cons x u2 =>
      rw [List.cons_append, merge, if_pos (h2 y List.mem_cons_self x List.mem_cons_self), ih]; rfl
  | x :: u1, y :: v1, u2, v2, h1, h2 => by
    rw [List.cons_append, List.cons_append, merge, merge]
    split
    · have ih := merge_split (x :: u1) v1 u2 v2 h1 (fun a ha => h2 a (List.mem_cons_of_mem _ ha))
      rw [List.cons_append] at ih
      rw [ih]; rfl
    · have ih := merge_split u1 (y :: v1) u2 v2 (fun a ha => h1 a (List.mem_cons_of_mem _ ha)) h2
      rw [List.cons_append] at ih
      rw [ih]; rfl
termination_by u1 v1 => u1.length + v1.length
variable (lt)
/-- None is ahead of one that stands before it. -/
def Sorted (l : List α) : Prop := l.Pairwise fun a b => lt b a = false
/-- The stable order. -/
def isort (l : List α) : List α := l.foldl (fun s x => merge lt s [x]) []
variable {lt}
theorem mem_merge : ∀ {u v : List α} {z : α}, z ∈ merge lt u v → z ∈ u ∨ z ∈ v
  | [], v, z, h => by rw [merge] at h; exact .inr h
  | x :: u, [], z, h => by rw [merge] at h; exact .inl h
  | x :: u, y :: v, z, h => by
    rw [merge] at h
    split at h
    · rcases List.mem_cons.1 h with rfl | h
      · exact .inr List.mem_cons_self
      · rcases mem_merge h with h | h
        · exact .inl h
        · exact .inr (List.mem_cons_of_mem _ h)
    · rcases List.mem_cons.1 h with rfl | h
      · exact .inl List.mem_cons_self
      · rcases mem_merge h with h | h
        · exact .inl (List.mem_cons_of_mem _ h)
        · exact .inr h
theorem Ord.le_trans (h : Ord lt) {a b c : α} (h1 : lt b a = false) (h2 : lt c b = false) : lt c a = false := by
  cases hc : lt c a with
  | false => rfl
  | true => exact absurd (h.skip c a b hc h1) (by simp [h2])
theorem merge_sorted (h : Ord lt) : ∀ {u v : List α}, Sorted lt u → Sorted lt v → Sorted lt (merge lt u v)
  | [], v, _, hv => by rw [merge]; exact hv
  | x :: u, [], hu, _ => by rw [merge]; exact hu
  | x :: u, y :: v, hu, hv => by
    obtain ⟨hu1, hu2⟩ := List.pairwise_cons.1 hu
    obtain ⟨hv1, hv2⟩ := List.pairwise_cons.1 hv
    rw [merge]
    split
    · rename_i hyx
      refine List.pairwise_cons.2 ⟨fun z hz => ?_, merge_sorted h hu hv2⟩
      rcases mem_merge hz with hz | hz
      · rcases List.mem_cons.1 hz with rfl | hz
        · exact h.asym _ _ hyx
        · exact h.le_trans (h.asym _ _ hyx) (hu1 z hz)
      · exact hv1 z hz
    · rename_i hyx
      have hyx' : lt y x = false := by simpa using hyx
      refine List.pairwise_cons.2 ⟨fun z hz => ?_, merge_sorted h hu2 hv⟩
      rcases mem_merge hz with hz | hz
      · exact hu1 z hz
      · rcases List.mem_cons.1 hz with rfl | hz
        · exact hyx'
        · exact h.le_trans hyx' (hv1 z hz)
termination_by u v => u.length + v.length
theorem foldl_merge (h : Ord lt) : ∀ (l s : List α), l.foldl (fun s x => merge lt s [x]) s = merge lt s (isort lt l)
  | [], s => by rw [isort, List.foldl_nil, List.foldl_nil, merge_nil]
  | x :: l, s => by
    rw [isort, List.foldl_cons, List.foldl_cons, foldl_merge h l, foldl_merge h l, nil_merge, merge_assoc h]
theorem isort_append (h : Ord lt) (a b : List α) : isort lt (a ++ b) = merge lt (isort lt a) (isort lt b) := by
  conv => lhs; rw [isort, List.foldl_append]
  rw [foldl_merge h b]; rfl
theorem isort_snoc (l : List α) (x : α) : isort lt (l ++ [x]) = merge lt (isort lt l) [x] := by
  rw [isort, List.foldl_append]; rfl
theorem isort_length (l : List α) : (isort lt l).length = l.length := by
  have : ∀ (l s : List α), (l.foldl (fun s x => merge lt s [x]) s).length = s.length + l.length := by
    intro l
    induction l with
    | nil => intro s; simp
    | cons x l ih => intro s; rw [List.foldl_cons, ih, merge_length]; simp; omega
  have := this l []
  simpa [isort] using this
theorem isort_sorted (h : Ord lt) (l : List α) : Sorted lt (isort lt l) := by
  have : ∀ (l s : List α), Sorted lt s → Sorted lt (l.foldl (fun s x => merge lt s [x]) s) := by
    intro l
    induction l with
    | nil => intro s hs; exact hs
    | cons x l ih => intro s hs; exact ih _ (merge_sorted h hs (List.pairwise_singleton _ _))
  exact this l [] List.Pairwise.nil
/-- One behind a sorted list goes where none ahead of it is greater, and all behind it are. -/
theorem merge_one (s1 s2 : List α) (x : α) (h1 : ∀ e ∈ s1, lt x e = false) (h2 : ∀ e ∈ s2, lt x e = true) : merge lt (s1 ++ s2) [x] = s1 ++ x :: s2 := by
  have := merge_split (lt := lt) s1 [] s2 [x] (fun a ha y hy => by rw [List.mem_singleton] at hy; subst hy; exact h1 a ha) (fun y hy => by cases hy)
  rw [List.nil_append, merge_nil] at this
  rw [this]
  congr 1
  have h3 := merge_split (lt := lt) [] [x] s2 [] (fun a ha => by cases ha) (fun y hy a ha => by rw [List.mem_singleton] at hy; subst hy; exact h2 a ha)
  rw [List.nil_append, List.append_nil, nil_merge, merge_nil] at h3
  exact h3
/-- One ahead of a sorted list. -/
theorem one_merge (v1 v2 : List α) (x : α) (h1 : ∀ e ∈ v1, lt e x = true) (h2 : ∀ e ∈ v2, lt e x = false) : merge lt [x] (v1 ++ v2) = v1 ++ x :: v2 := by
  have := merge_split (lt := lt) [] v1 [x] v2 (fun a ha => by cases ha) (fun y hy a ha => by rw [List.mem_singleton] at ha; subst ha; exact h1 y hy)
  rw [List.nil_append, nil_merge] at this
  rw [this]
  congr 1
  have h3 := merge_split (lt := lt) [x] [] [] v2 (fun a ha y hy => by rw [List.mem_singleton] at ha; subst ha; exact h2 y hy) (fun y hy => by cases hy)
  rw [List.nil_append, List.append_nil, nil_merge, merge_nil] at h3
  exact h3
theorem Sorted.getElem {l : List α} (hs : Sorted lt l) {i j : Nat} (hij : i < j) (hj : j < l.length) : lt l[j] (l[i]'(by omega)) = false := (List.pairwise_iff_getElem.1 hs) i j (by omega) hj hij
end
end Go.Proofs.YtcmiehddjgfjaaaGreat.Stable
namespace Go.Proofs.YtcmiehddjgfjaaaGreat.St
open Go.Sort Go.Proofs.YtcmiehddjgfjaaaGreat.Stable
section
variable {α : Type} [Inhabited α]
/-- The elements of two ranges, exchanged one by one. -/
def swpR (a b : Nat) : Nat → Nat → Array α → Array α
  | _, 0, d => d
  | i, m + 1, d => swpR a b (i + 1) m (swp d (a + i) (b + i))
theorem get_at (d : Array α) (x y : List α) (a : α) (h : d.toList = x ++ a :: y) : d[x.length]! = a := by
  rw [getElem!_def]
  have : d[x.length]? = some a := by rw [← Array.getElem?_toList, h]; simp
  rw [this]
theorem swp_list (d : Array α) (x y z : List α) (a b : α) (h : d.toList = x ++ a :: (y ++ b :: z)) : (swp d x.length (x.length + 1 + y.length)).toList = x ++ b :: (y ++ a :: z) := by
  have ga := get_at d x _ a h
  have gb : d[x.length + 1 + y.length]! = b := by
    have := get_at d (x ++ a :: y) z b (by rw [h]; simp)
    rw [show (x ++ a :: y).length = x.length + 1 + y.length by simp; omega] at this
    exact this
  unfold swp
  rw [ga, gb]
  rw [Array.toList_setIfInBounds, Array.toList_setIfInBounds, h]
  have e1 : (x ++ a :: (y ++ b :: z)).set x.length b = x ++ b :: (y ++ b :: z) := by
    rw [List.set_append_right _ _ (Nat.le_refl _), Nat.sub_self, List.set_cons_zero]
  have e2 : (x ++ b :: (y ++ b :: z)).set (x.length + 1 + y.length) a = x ++ b :: (y ++ a :: z) := by
    rw [List.set_append_right _ _ (by omega), show x.length + 1 + y.length - x.length = y.length + 1 by omega, List.set_cons_succ, List.set_append_right _ _ (Nat.le_refl _), Nat.sub_self, List.set_cons_zero]
  rw [e1, e2]
theorem swpR_list : ∀ (m i a b : Nat) (d : Array α) (x A y B z : List α), d.toList = x ++ (A ++ (y ++ (B ++ z))) → x.length = a + i → A.length = m → B.length = m → x.length + m + y.length = b + i → (swpR a b i m d).toList = x ++ (B ++ (y ++ (A ++ z)))
  | 0, i, a, b, d, x, A, y, B, z, h, hx, hA, hB, hy => by
    have e1 := List.eq_nil_of_length_eq_zero hA
    have e2 := List.eq_nil_of_length_eq_zero hB
    subst e1; subst e2
    rw [swpR, h]
  | m + 1, i, a, b, d, x, A, y, B, z, h, hx, hA, hB, hy => by
    match A, hA, B, hB with
    | a0 :: A', hA, b0 :: B', hB =>
      have hA' : A'.length = m := by simpa using hA
      have hB' : B'.length = m := by simpa using hB
      have e := swp_list d x (A' ++ y) (B' ++ z) a0 b0 (by rw [h]; simp)
      have e2 : x.length + 1 + (A' ++ y).length = b + i := by rw [List.length_append, hA']; omega
      rw [e2, hx] at e
      rw [swpR, swpR_list m (i + 1) a b (swp d (a + i) (b + i)) (x ++ [b0]) A' (y ++ [a0]) B' z (by rw [e]; simp) (by simp; omega) hA' hB' (by simp; omega)]
      simp
/-- What a round of the turning leaves to be turned. -/
def Left (m : Nat) (t : List α) (i j : Nat) (dk : Array α) : Prop :=
  ∃ p u v q : List α, u.length = i ∧ v.length = j ∧ p.length + i = m ∧ dk.toList = p ++ (u ++ (v ++ q)) ∧ p ++ (v ++ (u ++ q)) = t
theorem left_great {m i j : Nat} {t : List α} {dk : Array α} (h : Left m t i j dk) (hij : j < i) : Left m t (i - j) j (swpR (m - i) m 0 j dk) := by
  obtain ⟨p, u, v, q, hu, hv, hp, hd, ht⟩ := h
  have e : u = u.take j ++ u.drop j := (List.take_append_drop j u).symm
  have l1 : (u.take j).length = j := by rw [List.length_take]; omega
  have l2 : (u.drop j).length = i - j := by rw [List.length_drop]; omega
  generalize u.take j = A at e l1
  generalize u.drop j = B at e l2
  subst e
  have s := swpR_list j 0 (m - i) m dk p A B v q (by rw [hd]; simp) (by omega) l1 hv (by omega)
  exact ⟨p ++ v, B, A, q, l2, l1, by rw [List.length_append]; omega, by rw [s]; simp, by rw [← ht]; simp⟩
theorem left_less {m i j : Nat} {t : List α} {dk : Array α} (h : Left m t i j dk) (hij : i < j) : Left m t i (j - i) (swpR (m - i) (m + j - i) 0 i dk) := by
  obtain ⟨p, u, v, q, hu, hv, hp, hd, ht⟩ := h
  have e : v = v.take (j - i) ++ v.drop (j - i) := (List.take_append_drop (j - i) v).symm
  have l1 : (v.take (j - i)).length = j - i := by rw [List.length_take]; omega
  have l2 : (v.drop (j - i)).length = i := by rw [List.length_drop]; omega
  generalize v.take (j - i) = C at e l1
  generalize v.drop (j - i) = D at e l2
  subst e
  have s := swpR_list i 0 (m - i) (m + j - i) dk p u C D q (by rw [hd]; simp) (by omega) hu l2 (by omega)
  exact ⟨p, D, C, u ++ q, l2, l1, by omega, by rw [s], by rw [← ht]; simp⟩
theorem left_same {m i : Nat} {t : List α} {dk : Array α} (h : Left m t i i dk) : (swpR (m - i) m 0 i dk).toList = t := by
  obtain ⟨p, u, v, q, hu, hv, hp, hd, ht⟩ := h
  have s := swpR_list i 0 (m - i) m dk p u [] v q (by rw [hd]; simp) (by omega) hu hv (by simp; omega)
  rw [s, ← ht]; simp
theorem swpR_size : ∀ (m i a b : Nat) (d : Array α), (swpR a b i m d).size = d.size
  | 0, _, _, _, _ => rfl
  | m + 1, i, a, b, d => by rw [swpR, swpR_size m, size_swp]
/-- 'p' is true up to some place, and false from there on. -/
def Mono (p : Nat → Bool) (lo hi : Nat) : Prop := ∀ q c, lo ≤ q → q ≤ c → c < hi → p c = true → p q = true
/-- What a binary search knows. -/
structure Bin (p : Nat → Bool) (lo hi i j : Nat) : Prop where
  mono : Mono p lo hi
  li : lo ≤ i
  ij : i ≤ j
  jh : j ≤ hi
  yes : ∀ q, lo ≤ q → q < i → p q = true
  no : ∀ q, j ≤ q → q < hi → p q = false
theorem Bin.start {p : Nat → Bool} {lo hi : Nat} (hm : Mono p lo hi) (h : lo ≤ hi) : Bin p lo hi lo hi :=
  ⟨hm, Nat.le_refl _, h, Nat.le_refl _, fun q h1 h2 => by omega, fun q h1 h2 => by omega⟩
theorem Bin.right {p : Nat → Bool} {lo hi i j c : Nat} (b : Bin p lo hi i j) (h1 : i ≤ c) (h2 : c < j) (hp : p c = true) : Bin p lo hi (c + 1) j :=
  ⟨b.mono, by have := b.li; omega, by omega, b.jh, fun q hq hc => b.mono q c hq (by omega) (by have := b.jh; omega) hp, b.no⟩
theorem Bin.left {p : Nat → Bool} {lo hi i j c : Nat} (b : Bin p lo hi i j) (h1 : i ≤ c) (h2 : c < j) (hp : p c = false) : Bin p lo hi i c :=
  ⟨b.mono, b.li, h1, by have := b.jh; omega, b.yes, fun q hq hh => by
    cases h : p q with
    | false => rfl
    | true => rw [b.mono c q (by have := b.li; omega) hq hh h] at hp; cases hp⟩
/-- x at place k is carried to the right, to the place ahead of i. -/
def MvR (T : List α) (i k : Nat) (dk : Array α) : Prop := ∃ (u v r : List α) (x : α), u.length = k ∧ v.length + k + 1 = i ∧ dk.toList = u ++ x :: (v ++ r) ∧ u ++ (v ++ x :: r) = T
theorem MvR.step {T : List α} {i k : Nat} {dk : Array α} (h : MvR T i k dk) (hk : k + 1 < i) : MvR T i (k + 1) (swp dk k (k + 1)) := by
  obtain ⟨u, v, r, x, hu, hv, hd, ht⟩ := h
  match v, hv with
  | [], hv => simp at hv; omega
  | y :: v, hv =>
    have s := swp_list dk u [] (v ++ r) x y (by rw [hd]; simp)
    rw [hu] at s
    exact ⟨u ++ [y], v, r, x, by simp [hu], by simp at hv; omega, by rw [show k + 1 = k + 1 + ([] : List α).length from rfl, s]; simp, by rw [← ht]; simp⟩
theorem MvR.done {T : List α} {i k : Nat} {dk : Array α} (h : MvR T i k dk) (hk : ¬ k + 1 < i) : dk.toList = T := by
  obtain ⟨u, v, r, x, hu, hv, hd, ht⟩ := h
  have : v = [] := List.eq_nil_of_length_eq_zero (by omega)
  subst this
  rw [hd, ← ht]; simp
theorem swp_list' (d : Array α) (x y z : List α) (a b : α) (h : d.toList = x ++ a :: (y ++ b :: z)) : (swp d (x.length + 1 + y.length) x.length).toList = x ++ b :: (y ++ a :: z) := by
  have ga := get_at d x _ a h
  have gb : d[x.length + 1 + y.length]! = b := by
    have := get_at d (x ++ a :: y) z b (by rw [h]; simp)
    rw [show (x ++ a :: y).length = x.length + 1 + y.length by simp; omega] at this
    exact this
  unfold swp
  rw [ga, gb]
  rw [Array.toList_setIfInBounds, Array.toList_setIfInBounds, h]
  have e2 : (x ++ a :: (y ++ b :: z)).set (x.length + 1 + y.length) a = x ++ a :: (y ++ a :: z) := by
    rw [List.set_append_right _ _ (by omega), show x.length + 1 + y.length - x.length = y.length + 1 by omega, List.set_cons_succ, List.set_append_right _ _ (Nat.le_refl _), Nat.sub_self, List.set_cons_zero]
  have e1 : (x ++ a :: (y ++ a :: z)).set x.length b = x ++ b :: (y ++ a :: z) := by
    rw [List.set_append_right _ _ (Nat.le_refl _), Nat.sub_self, List.set_cons_zero]
  rw [e2, e1]
/-- x at place k is carried to the left, to the place i. -/
def MvL (T : List α) (i k : Nat) (dk : Array α) : Prop := ∃ (u v r : List α) (x : α), u.length = i ∧ v.length + i = k ∧ dk.toList = u ++ (v ++ x :: r) ∧ u ++ x :: (v ++ r) = T
theorem MvL.step {T : List α} {i k : Nat} {dk : Array α} (h : MvL T i (k + 1) dk) (hk : i < k + 1) : MvL T i k (swp dk (k + 1) k) := by
  obtain ⟨u, v, r, x, hu, hv, hd, ht⟩ := h
  have hne : v ≠ [] := by intro e; subst e; simp at hv; omega
  have e : v = v.dropLast ++ [v.getLast hne] := (List.dropLast_concat_getLast hne).symm
  have hl : v.dropLast.length + i = k := by rw [List.length_dropLast]; omega
  generalize v.dropLast = v' at e hl
  generalize v.getLast hne = y at e
  subst e
  have s := swp_list' dk (u ++ v') [] r y x (by rw [hd]; simp)
  have e1 : (u ++ v').length = k := by rw [List.length_append]; omega
  rw [e1] at s
  exact ⟨u, v', y :: r, x, hu, hl, by rw [show k + 1 = k + 1 + ([] : List α).length from rfl, s]; simp, by rw [← ht]; simp⟩
theorem MvL.done {T : List α} {i k : Nat} {dk : Array α} (h : MvL T i k dk) (hk : ¬ i < k) : dk.toList = T := by
  obtain ⟨u, v, r, x, hu, hv, hd, ht⟩ := h
  have : v = [] := List.eq_nil_of_length_eq_zero (by omega)
  subst this
  rw [hd, ← ht]; simp
/-- Two sorted neighbours. -/
structure Two (lt : α → α → Bool) (a m b : Nat) (pre U V post : List α) (d : Array α) : Prop where
  list : d.toList = pre ++ (U ++ (V ++ post))
  la : pre.length = a
  lm : U.length + a = m
  lb : V.length + m = b
  su : Sorted lt U
  sv : Sorted lt V
section
variable {lt : α → α → Bool} {a m b : Nat} {pre U V post : List α} {d : Array α}
theorem Ord.irr (h : Stable.Ord lt) (x : α) : lt x x = false := by
  cases e : lt x x with
  | false => rfl
  | true => exact absurd (h.asym x x e) (by rw [e]; simp)
theorem get_list (d : Array α) (l : List α) (h : d.toList = l) (i : Nat) (hi : i < l.length) : d[i]! = l[i] := by
  subst h
  rw [getElem!_pos d i (by simpa using hi)]
  simp
theorem Two.getU (t : Two lt a m b pre U V post d) {q : Nat} (h1 : a ≤ q) (h2 : q < m) : ∃ h : q - a < U.length, d[q]! = U[q - a] := by
  have l1 := t.la; have l2 := t.lm
  have hq : q - a < U.length := by omega
  refine ⟨hq, ?_⟩
  rw [get_list d _ t.list q (by simp; omega), List.getElem_append_right (by omega), List.getElem_append_left (by omega)]
  congr 1; omega
theorem Two.getV (t : Two lt a m b pre U V post d) {q : Nat} (h1 : m ≤ q) (h2 : q < b) : ∃ h : q - m < V.length, d[q]! = V[q - m] := by
  have l1 := t.la; have l2 := t.lm; have l3 := t.lb
  have hq : q - m < V.length := by omega
  refine ⟨hq, ?_⟩
  rw [get_list d _ t.list q (by simp; omega), List.getElem_append_right (by omega), List.getElem_append_right (by omega), List.getElem_append_left (by omega)]
  congr 1; omega
theorem Two.incU (O : Stable.Ord lt) (t : Two lt a m b pre U V post d) {q c : Nat} (h1 : a ≤ q) (h2 : q ≤ c) (h3 : c < m) : lt d[c]! d[q]! = false := by
  obtain ⟨hq, eq⟩ := t.getU h1 (by omega)
  obtain ⟨hc, ec⟩ := t.getU (q := c) (by omega) h3
  rw [eq, ec]
  by_cases e : q = c
  · subst e; exact Ord.irr O _
  · exact t.su.getElem (by omega) hc
theorem Two.incV (O : Stable.Ord lt) (t : Two lt a m b pre U V post d) {q c : Nat} (h1 : m ≤ q) (h2 : q ≤ c) (h3 : c < b) : lt d[c]! d[q]! = false := by
  obtain ⟨hq, eq⟩ := t.getV h1 (by omega)
  obtain ⟨hc, ec⟩ := t.getV (q := c) (by omega) h3
  rw [eq, ec]
  by_cases e : q = c
  · subst e; exact Ord.irr O _
  · exact t.sv.getElem (by omega) hc
theorem Two.memU (t : Two lt a m b pre U V post d) {s : Nat} (h1 : a ≤ s) (h2 : s ≤ m) {x : α} (hx : x ∈ U.take (s - a)) : ∃ q, a ≤ q ∧ q < s ∧ d[q]! = x := by
  have l2 := t.lm
  obtain ⟨i, hi, rfl⟩ := List.getElem_of_mem hx
  rw [List.length_take] at hi
  obtain ⟨hq, eq⟩ := t.getU (q := a + i) (by omega) (by omega)
  refine ⟨a + i, by omega, by omega, ?_⟩
  rw [eq, List.getElem_take]
  congr 1; omega
theorem Two.memU' (t : Two lt a m b pre U V post d) {s : Nat} (h1 : a ≤ s) (h2 : s ≤ m) {x : α} (hx : x ∈ U.drop (s - a)) : ∃ q, s ≤ q ∧ q < m ∧ d[q]! = x := by
  have l2 := t.lm
  obtain ⟨i, hi, rfl⟩ := List.getElem_of_mem hx
  rw [List.length_drop] at hi
  obtain ⟨hq, eq⟩ := t.getU (q := s + i) (by omega) (by omega)
  refine ⟨s + i, by omega, by omega, ?_⟩
  rw [eq, List.getElem_drop]
  congr 1; omega
theorem Two.memV (t : Two lt a m b pre U V post d) {s : Nat} (h1 : m ≤ s) (h2 : s ≤ b) {x : α} (hx : x ∈ V.take (s - m)) : ∃ q, m ≤ q ∧ q < s ∧ d[q]! = x := by
  have l2 := t.lb
  obtain ⟨i, hi, rfl⟩ := List.getElem_of_mem hx
  rw [List.length_take] at hi
  obtain ⟨hq, eq⟩ := t.getV (q := m + i) (by omega) (by omega)
  refine ⟨m + i, by omega, by omega, ?_⟩
  rw [eq, List.getElem_take]
  congr 1; omega
theorem Two.memV' (t : Two lt a m b pre U V post d) {s : Nat} (h1 : m ≤ s) (h2 : s ≤ b) {x : α} (hx : x ∈ V.drop (s - m)) : ∃ q, s ≤ q ∧ q < b ∧ d[q]! = x := by
  have l2 := t.lb
  obtain ⟨i, hi, rfl⟩ := List.getElem_of_mem hx
  rw [List.length_drop] at hi
  obtain ⟨hq, eq⟩ := t.getV (q := s + i) (by omega) (by omega)
  refine ⟨s + i, by omega, by omega, ?_⟩
  rw [eq, List.getElem_drop]
  congr 1; omega
theorem Ord.lt_of (h : Stable.Ord lt) {x y z : α} (h1 : lt z x = true) (h2 : lt z y = false) : lt y x = true := by
  cases e : lt y x with
  | true => rfl
  | false => rw [h.skip z x y h1 e] at h2; cases h2
theorem Ord.lt_le (h : Stable.Ord lt) {x y z : α} (h1 : lt z x = true) (h2 : lt y x = false) : lt z y = true := h.skip z x y h1 h2
/-- (1) one on the left: the search among the right ones. -/
theorem Two.mono1 (O : Stable.Ord lt) (t : Two lt a m b pre U V post d) : Mono (fun q => lt d[q]! d[a]!) m b := fun q c h1 h2 h3 hp =>
  Ord.lt_of O hp (t.incV O h1 h2 h3)
theorem Two.one_left (O : Stable.Ord lt) (t : Two lt a m b pre U V post d) (h : m = a + 1) {i : Nat} (B : Bin (fun q => lt d[q]! d[a]!) m b i i) : MvR (pre ++ (merge lt U V ++ post)) i a d := by
  have l1 := t.la; have l2 := t.lm; have l3 := t.lb; have b1 := B.li; have b2 := B.jh
  obtain ⟨x, rfl⟩ : ∃ x, U = [x] := List.length_eq_one_iff.1 (by omega)
  obtain ⟨_, ex⟩ := t.getU (q := a) (Nat.le_refl _) (by omega)
  have ex : d[a]! = x := by rw [ex]; simp
  have e := one_merge (lt := lt) (V.take (i - m)) (V.drop (i - m)) x
    (fun y hy => by obtain ⟨q, q1, q2, rfl⟩ := t.memV (by omega) (by omega) hy; have := B.yes q q1 q2; rw [ex] at this; exact this)
    (fun y hy => by obtain ⟨q, q1, q2, rfl⟩ := t.memV' (by omega) (by omega) hy; have := B.no q q1 q2; rw [ex] at this; exact this)
  rw [List.take_append_drop] at e
  refine ⟨pre, V.take (i - m), V.drop (i - m) ++ post, x, l1, by rw [List.length_take]; omega, ?_, by rw [e]; simp⟩
  rw [t.list, ← List.append_assoc (V.take _), List.take_append_drop]; simp
/-- (2) one on the right: the search among the left ones. -/
theorem Two.mono2 (O : Stable.Ord lt) (t : Two lt a m b pre U V post d) : Mono (fun q => !lt d[m]! d[q]!) a m := fun q c h1 h2 h3 hp => by
  have hp : lt d[m]! d[c]! = false := by simpa using hp
  have := O.le_trans (t.incU O h1 h2 h3) hp
  simp [this]
theorem Two.one_right (O : Stable.Ord lt) (t : Two lt a m b pre U V post d) (h : b = m + 1) {i : Nat} (B : Bin (fun q => !lt d[m]! d[q]!) a m i i) : MvL (pre ++ (merge lt U V ++ post)) i m d := by
  have l1 := t.la; have l2 := t.lm; have l3 := t.lb; have b1 := B.li; have b2 := B.jh
  obtain ⟨x, rfl⟩ : ∃ x, V = [x] := List.length_eq_one_iff.1 (by omega)
  obtain ⟨_, ex⟩ := t.getV (q := m) (Nat.le_refl _) (by omega)
  have ex : d[m]! = x := by rw [ex]; simp
  have e := merge_one (lt := lt) (U.take (i - a)) (U.drop (i - a)) x
    (fun y hy => by obtain ⟨q, q1, q2, rfl⟩ := t.memU (by omega) (by omega) hy; have := B.yes q q1 q2; rw [ex] at this; simpa using this)
    (fun y hy => by obtain ⟨q, q1, q2, rfl⟩ := t.memU' (by omega) (by omega) hy; have := B.no q q1 q2; rw [ex] at this; simpa using this)
  rw [List.take_append_drop] at e
  refine ⟨pre ++ U.take (i - a), U.drop (i - a), post, x, by rw [List.length_append, List.length_take]; omega, by rw [List.length_drop]; omega, ?_, by rw [e]; simp⟩
  rw [t.list]
  simp only [List.append_assoc, List.cons_append, List.nil_append]
  rw [← List.append_assoc (List.take (i - a) U), List.take_append_drop]
/-- (3) parted in the middle. -/
theorem Two.mono3 (O : Stable.Ord lt) (t : Two lt a m b pre U V post d) {p lo hi : Nat} (h1 : a ≤ lo) (h2 : hi ≤ m) (h3 : ∀ c, lo ≤ c → c < hi → c ≤ p ∧ m ≤ p - c ∧ p - c < b) : Mono (fun c => !lt d[p - c]! d[c]!) lo hi := fun q c q1 q2 q3 hp => by
  have hp : lt d[p - c]! d[c]! = false := by simpa using hp
  have k1 := h3 c (by omega) q3
  have k2 := h3 q q1 (by omega)
  have e1 := t.incU O (q := q) (c := c) (by omega) q2 (by omega)
  have e2 := t.incV O (q := p - c) (c := p - q) (by omega) (by omega) (by omega)
  have := O.le_trans (O.le_trans e1 hp) e2
  simp [this]
/-- The bounds of the search, and what it must keep. -/
structure Mid (a m b mid lo hi : Nat) : Prop where
  am : a < m
  mb : m < b
  midd : mid = (a + b) / 2
  way : (m > mid ∧ lo + b = mid + m ∧ hi = mid) ∨ (m ≤ mid ∧ lo = a ∧ hi = m)
theorem Mid.facts {mid lo hi : Nat} (M : Mid a m b mid lo hi) : a ≤ lo ∧ lo ≤ hi ∧ hi ≤ m ∧ hi ≤ mid ∧ a < mid ∧ mid < b ∧ (∀ c, lo ≤ c → c < hi → c ≤ mid + m - 1 ∧ m ≤ mid + m - 1 - c ∧ mid + m - 1 - c < b) := by
  obtain ⟨h1, h2, h3, h4⟩ := M
  have k : 2 * mid ≤ a + b ∧ a + b ≤ 2 * mid + 1 := by omega
  clear h3
  rcases h4 with ⟨g1, g2, g3⟩ | ⟨g1, g2, g3⟩
  · refine ⟨by omega, by omega, by omega, by omega, by omega, by omega, fun c c1 c2 => ⟨by omega, by omega, by omega⟩⟩
  · refine ⟨by omega, by omega, by omega, by omega, by omega, by omega, fun c c1 c2 => ⟨by omega, by omega, by omega⟩⟩
theorem Two.parted (O : Stable.Ord lt) (t : Two lt a m b pre U V post d) {mid lo hi s : Nat} (M : Mid a m b mid lo hi) (B : Bin (fun c => !lt d[mid + m - 1 - c]! d[c]!) lo hi s s) :
    merge lt U V = merge lt (U.take (s - a)) (V.take (mid + m - s - m)) ++ merge lt (U.drop (s - a)) (V.drop (mid + m - s - m)) := by
  obtain ⟨f1, f2, f3, f4, f5, f6, f7⟩ := M.facts
  have b1 := B.li; have b2 := B.jh
  have w := M.way; have am := M.am; have mb := M.mb
  have eb : mid + m - s ≤ b := by
    rcases w with ⟨g1, g2, g3⟩ | ⟨g1, g2, g3⟩
    · omega
    · have := M.midd; omega
  have e := merge_split (lt := lt) (U.take (s - a)) (V.take (mid + m - s - m)) (U.drop (s - a)) (V.drop (mid + m - s - m)) ?_ ?_
  · rw [List.take_append_drop, List.take_append_drop] at e; exact e
  · intro x hx y hy
    obtain ⟨q, q1, q2, rfl⟩ := t.memU (by omega) (by omega) hx
    obtain ⟨r, r1, r2, rfl⟩ := t.memV' (by omega) eb hy
    have hs : lo < s := by
      rcases w with ⟨g1, g2, g3⟩ | ⟨g1, g2, g3⟩
      · omega
      · omega
    have hp := B.yes (s - 1) (by omega) (by omega)
    have hp : lt d[mid + m - 1 - (s - 1)]! d[s - 1]! = false := by simpa using hp
    rw [show mid + m - 1 - (s - 1) = mid + m - s by omega] at hp
    have e1 := t.incU O (q := q) (c := s - 1) (by omega) (by omega) (by omega)
    have e2 := t.incV O (q := mid + m - s) (c := r) (by omega) (by omega) (by omega)
    exact O.le_trans (O.le_trans e1 hp) e2
  · intro y hy x hx
    obtain ⟨q, q1, q2, rfl⟩ := t.memU' (by omega) (by omega) hx
    obtain ⟨r, r1, r2, rfl⟩ := t.memV (by omega) eb hy
    have hs : s < hi := by
      rcases w with ⟨g1, g2, g3⟩ | ⟨g1, g2, g3⟩
      · omega
      · omega
    have hp := B.no s (Nat.le_refl _) hs
    have hp : lt d[mid + m - 1 - s]! d[s]! = true := by simpa using hp
    have e1 := t.incU O (q := s) (c := q) (by omega) (by omega) (by omega)
    have e2 := t.incV O (q := r) (c := mid + m - 1 - s) (by omega) (by omega) (by omega)
    exact Ord.lt_of O (Ord.lt_le O hp e1) e2
end
/-- The list, when the middle has been turned; when the left half is one; when all is. -/
def St1 (U V pre post : List α) (a m s e n : Nat) (d : Array α) : Prop := d.toList = pre ++ (U.take (s - a) ++ (V.take (e - m) ++ (U.drop (s - a) ++ (V.drop (e - m) ++ post)))) ∧ d.size = n
def St2 (lt : α → α → Bool) (U V pre post : List α) (a m s e n : Nat) (d : Array α) : Prop := d.toList = (pre ++ merge lt (U.take (s - a)) (V.take (e - m))) ++ (U.drop (s - a) ++ (V.drop (e - m) ++ post)) ∧ d.size = n
def St3 (lt : α → α → Bool) (U V pre post : List α) (n : Nat) (d : Array α) : Prop := d.toList = pre ++ (merge lt U V ++ post) ∧ d.size = n
/-- Two sorted neighbours, and where they are parted. -/
structure Parts (lt : α → α → Bool) (a m b mid s e : Nat) (U V : List α) : Prop where
  sa : a ≤ s
  sm : s ≤ m
  smid : s ≤ mid
  me : m ≤ e
  eb : e ≤ b
  mide : mid ≤ e
  ee : e + s = mid + m
  lu : U.length + a = m
  lv : V.length + m = b
  su : Sorted lt U
  sv : Sorted lt V
  par : merge lt U V = merge lt (U.take (s - a)) (V.take (e - m)) ++ merge lt (U.drop (s - a)) (V.drop (e - m))
section
variable {lt : α → α → Bool} {a m b mid s e n : Nat} {pre U V post : List α} {d : Array α}
theorem Two.parts (O : Stable.Ord lt) (t : Two lt a m b pre U V post d) {lo hi : Nat} (M : Mid a m b mid lo hi) (B : Bin (fun c => !lt d[mid + m - 1 - c]! d[c]!) lo hi s s) : Parts lt a m b mid s (mid + m - s) U V := by
  obtain ⟨f1, f2, f3, f4, f5, f6, f7⟩ := M.facts
  have b1 := B.li; have b2 := B.jh
  have eb : mid + m - s ≤ b := by
    rcases M.way with ⟨g1, g2, g3⟩ | ⟨g1, g2, g3⟩
    · omega
    · have := M.midd; omega
  exact ⟨by omega, by omega, by omega, by omega, eb, by omega, by omega, t.lm, t.lb, t.su, t.sv, t.parted O M B⟩
theorem Parts.l1 (p : Parts lt a m b mid s e U V) : (U.take (s - a)).length = s - a ∧ (U.drop (s - a)).length = m - s ∧ (V.take (e - m)).length = e - m ∧ (V.drop (e - m)).length = b - e := by
  have h1 := p.sa; have h2 := p.sm; have h3 := p.me; have h4 := p.eb; have h5 := p.lu; have h6 := p.lv
  refine ⟨by rw [List.length_take]; omega, by rw [List.length_drop]; omega, by rw [List.length_take]; omega, by rw [List.length_drop]; omega⟩
theorem Parts.whole (p : Parts lt a m b mid s e U V) (h : d.toList = pre ++ (U ++ (V ++ post))) : d.toList = pre ++ (U.take (s - a) ++ (U.drop (s - a) ++ (V.take (e - m) ++ (V.drop (e - m) ++ post)))) := by
  rw [h, ← List.append_assoc (V.take _), List.take_append_drop, ← List.append_assoc (U.take _), List.take_append_drop]
theorem Parts.left (p : Parts lt a m b mid s e U V) (hp : pre.length = a) (h : d.toList = pre ++ (U ++ (V ++ post))) : Left m (pre ++ (U.take (s - a) ++ (V.take (e - m) ++ (U.drop (s - a) ++ (V.drop (e - m) ++ post))))) (m - s) (e - m) d := by
  obtain ⟨l1, l2, l3, l4⟩ := p.l1
  have h1 := p.sa; have h2 := p.sm
  refine ⟨pre ++ U.take (s - a), U.drop (s - a), V.take (e - m), V.drop (e - m) ++ post, l2, l3, by rw [List.length_append, l1]; omega, by rw [p.whole h]; simp, by simp⟩
theorem Parts.st1_none (p : Parts lt a m b mid s e U V) (h : d.toList = pre ++ (U ++ (V ++ post))) (hn : d.size = n) (hz : ¬ (s < m ∧ m < e)) : St1 U V pre post a m s e n d := by
  obtain ⟨l1, l2, l3, l4⟩ := p.l1
  have h1 := p.sm; have h2 := p.me
  refine ⟨?_, hn⟩
  rw [p.whole h]
  by_cases hs : s < m
  · have : V.take (e - m) = [] := List.eq_nil_of_length_eq_zero (by omega)
    rw [this]; simp
  · have : U.drop (s - a) = [] := List.eq_nil_of_length_eq_zero (by omega)
    rw [this]; simp
theorem St1.two (h : St1 U V pre post a m s e n d) (p : Parts lt a m b mid s e U V) (hp : pre.length = a) : Two lt a s mid pre (U.take (s - a)) (V.take (e - m)) (U.drop (s - a) ++ (V.drop (e - m) ++ post)) d := by
  obtain ⟨l1, l2, l3, l4⟩ := p.l1
  have h1 := p.sa; have h2 := p.sm; have h3 := p.me; have h4 := p.ee
  exact ⟨h.1, hp, by omega, by omega, p.su.sublist (List.take_sublist _ _), p.sv.sublist (List.take_sublist _ _)⟩
theorem St1.none (h : St1 U V pre post a m s e n d) (p : Parts lt a m b mid s e U V) (hz : ¬ (a < s ∧ s < mid)) : St2 lt U V pre post a m s e n d := by
  obtain ⟨l1, l2, l3, l4⟩ := p.l1
  have h1 := p.sa; have h2 := p.sm; have h3 := p.me; have h4 := p.ee; have h5 := p.smid
  refine ⟨?_, h.2⟩
  rw [h.1]
  by_cases hs : a < s
  · have : V.take (e - m) = [] := List.eq_nil_of_length_eq_zero (by omega)
    rw [this, merge_nil]; simp
  · have : U.take (s - a) = [] := List.eq_nil_of_length_eq_zero (by omega)
    rw [this, nil_merge]; simp
theorem St2.two (h : St2 lt U V pre post a m s e n d) (p : Parts lt a m b mid s e U V) (hp : pre.length = a) : Two lt mid e b (pre ++ merge lt (U.take (s - a)) (V.take (e - m))) (U.drop (s - a)) (V.drop (e - m)) post d := by
  obtain ⟨l1, l2, l3, l4⟩ := p.l1
  have h1 := p.sa; have h2 := p.sm; have h3 := p.me; have h4 := p.ee; have h5 := p.eb
  exact ⟨h.1, by rw [List.length_append, merge_length]; omega, by omega, by omega, p.su.sublist (List.drop_sublist _ _), p.sv.sublist (List.drop_sublist _ _)⟩
theorem St2.none (h : St2 lt U V pre post a m s e n d) (p : Parts lt a m b mid s e U V) (hz : ¬ (mid < e ∧ e < b)) : St3 lt U V pre post n d := by
  obtain ⟨l1, l2, l3, l4⟩ := p.l1
  have h1 := p.sa; have h2 := p.sm; have h3 := p.me; have h4 := p.ee; have h5 := p.smid; have h6 := p.eb; have h7 := p.mide
  refine ⟨?_, h.2⟩
  rw [h.1, p.par]
  by_cases hs : mid < e
  · have : V.drop (e - m) = [] := List.eq_nil_of_length_eq_zero (by omega)
    rw [this, merge_nil]; simp
  · have : U.drop (s - a) = [] := List.eq_nil_of_length_eq_zero (by omega)
    rw [this, nil_merge]; simp
theorem St3.of (p : Parts lt a m b mid s e U V) (h : d.toList = (pre ++ merge lt (U.take (s - a)) (V.take (e - m))) ++ (merge lt (U.drop (s - a)) (V.drop (e - m)) ++ post)) (hn : d.size = n) : St3 lt U V pre post n d :=
  ⟨by rw [h, p.par]; simp, hn⟩
theorem St2.of (h : d.toList = pre ++ (merge lt (U.take (s - a)) (V.take (e - m)) ++ (U.drop (s - a) ++ (V.drop (e - m) ++ post)))) (hn : d.size = n) : St2 lt U V pre post a m s e n d :=
  ⟨by rw [h]; simp, hn⟩
end
end
section
variable {α : Type} [Inhabited α] {lt : α → α → Bool}
theorem isort_one (x : α) : isort lt [x] = [x] := by
  rw [isort, List.foldl_cons, List.foldl_nil, nil_merge]
theorem isort_nil : isort lt ([] : List α) = [] := rfl
/-- x at place j, S's begin ahead of it, S's end, all greater, behind it. -/
def Ins (lt : α → α → Bool) (pre S rest : List α) (x : α) (a j : Nat) (dj : Array α) : Prop :=
  ∃ S1 S2 : List α, S = S1 ++ S2 ∧ S1.length + a = j ∧ (∀ e ∈ S2, lt x e = true) ∧ dj.toList = pre ++ (S1 ++ x :: (S2 ++ rest))
theorem Ins.start {pre S rest : List α} {x : α} {a i : Nat} {d : Array α} (h : d.toList = pre ++ (S ++ x :: rest)) (hl : S.length + a = i) : Ins lt pre S rest x a i d :=
  ⟨S, [], by simp, hl, by simp, by rw [h]; simp⟩
theorem Ins.cur {pre S rest : List α} {x : α} {a j : Nat} {dj : Array α} (h : Ins lt pre S rest x a j dj) (hp : pre.length = a) : dj[j]! = x := by
  obtain ⟨S1, S2, hS, hl, hg, hd⟩ := h
  have := get_at dj (pre ++ S1) (S2 ++ rest) x (by rw [hd]; simp)
  rw [show (pre ++ S1).length = j by rw [List.length_append]; omega] at this
  exact this
theorem Ins.step {pre S rest : List α} {x : α} {a j : Nat} {dj : Array α} (h : Ins lt pre S rest x a (j + 1) dj) (hp : pre.length = a) (hj : a < j + 1) (hlt : lt dj[j + 1]! dj[j]! = true) : Ins lt pre S rest x a j (swp dj (j + 1) j) := by
  have hc := h.cur hp
  obtain ⟨S1, S2, hS, hl, hg, hd⟩ := h
  have hne : S1 ≠ [] := by intro e; subst e; simp at hl; omega
  have e : S1 = S1.dropLast ++ [S1.getLast hne] := (List.dropLast_concat_getLast hne).symm
  have hl' : S1.dropLast.length + a = j := by rw [List.length_dropLast]; omega
  generalize S1.dropLast = S1' at e hl'
  generalize S1.getLast hne = y at e
  subst e
  have hy : dj[j]! = y := by
    have := get_at dj (pre ++ S1') (x :: (S2 ++ rest)) y (by rw [hd]; simp)
    rw [show (pre ++ S1').length = j by rw [List.length_append]; omega] at this
    exact this
  rw [hc, hy] at hlt
  have s := swp_list' dj (pre ++ S1') [] (S2 ++ rest) y x (by rw [hd]; simp)
  rw [show (pre ++ S1').length = j by rw [List.length_append]; omega] at s
  refine ⟨S1', y :: S2, by rw [hS]; simp, hl', ?_, by rw [show j + 1 = j + 1 + ([] : List α).length from rfl, s]; simp⟩
  intro e he
  rcases List.mem_cons.1 he with rfl | he
  · exact hlt
  · exact hg e he
theorem Ins.done (O : Stable.Ord lt) {pre S rest : List α} {x : α} {a j : Nat} {dj : Array α} (h : Ins lt pre S rest x a j dj) (hp : pre.length = a) (hs : Sorted lt S) (hstop : j ≤ a ∨ lt dj[j]! dj[j - 1]! = false) : dj.toList = pre ++ (merge lt S [x] ++ rest) := by
  have hc := h.cur hp
  obtain ⟨S1, S2, hS, hl, hg, hd⟩ := h
  have h1 : ∀ e ∈ S1, lt x e = false := by
    intro e he
    rcases hstop with hstop | hstop
    · have : S1 = [] := List.eq_nil_of_length_eq_zero (by omega)
      subst this; cases he
    · have hne : S1 ≠ [] := by intro e; subst e; cases he
      have e1 : S1 = S1.dropLast ++ [S1.getLast hne] := (List.dropLast_concat_getLast hne).symm
      have hl' : S1.dropLast.length + a + 1 = j := by rw [List.length_dropLast]; have := List.length_pos_iff.2 hne; omega
      generalize S1.dropLast = S1' at e1 hl'
      generalize S1.getLast hne = y at e1
      subst e1
      have hy : dj[j - 1]! = y := by
        have := get_at dj (pre ++ S1') (x :: (S2 ++ rest)) y (by rw [hd]; simp)
        rw [show (pre ++ S1').length = j - 1 by rw [List.length_append]; omega] at this
        exact this
      rw [hc, hy] at hstop
      rcases List.mem_append.1 he with he | he
      · subst hS
        have hs' : Sorted lt (S1' ++ [y]) := (List.pairwise_append.1 hs).1
        have := (List.pairwise_append.1 hs').2.2 e he y List.mem_cons_self
        exact O.le_trans this hstop
      · rw [List.mem_singleton] at he; subst he; exact hstop
  rw [hd, hS, merge_one S1 S2 x h1 hg]; simp
/-- What the outer loop has done. -/
def Outer (lt : α → α → Bool) (pre seg post : List α) (a i : Nat) (d : Array α) : Prop := d.toList = pre ++ (isort lt (seg.take (i - a)) ++ (seg.drop (i - a) ++ post))
theorem Outer.start {pre seg post : List α} {a : Nat} {d : Array α} (h : d.toList = pre ++ (seg ++ post)) : Outer lt pre seg post a (a + 1) d := by
  unfold Outer
  rw [show a + 1 - a = 1 by omega, h]
  cases seg with
  | nil => rfl
  | cons x seg => simp [isort_one]
theorem Outer.next {pre seg post : List α} {a i : Nat} {d : Array α} (h : Outer lt pre seg post a i d) (hi : a < i) (hb : i < seg.length + a) : ∃ x, Ins lt pre (isort lt (seg.take (i - a))) (seg.drop (i + 1 - a) ++ post) x a i d ∧ ∀ d' : Array α, d'.toList = pre ++ (merge lt (isort lt (seg.take (i - a))) [x] ++ (seg.drop (i + 1 - a) ++ post)) → Outer lt pre seg post a (i + 1) d' := by
  have hl : i - a < seg.length := by omega
  refine ⟨seg[i - a], Ins.start ?_ ?_, fun d' h' => ?_⟩
  · unfold Outer at h
    rw [h, List.drop_eq_getElem_cons hl, show i - a + 1 = i + 1 - a by omega]; simp
  · rw [isort_length, List.length_take]; omega
  · unfold Outer
    rw [h', ← isort_snoc, show i + 1 - a = i - a + 1 by omega, List.take_add_one, List.getElem?_eq_getElem hl]; rfl
theorem Outer.done {pre seg post : List α} {a i : Nat} {d : Array α} (h : Outer lt pre seg post a i d) (hb : ¬ i < seg.length + a) : d.toList = pre ++ (isort lt seg ++ post) := by
  unfold Outer at h
  rw [h, List.take_of_length_le (by omega), List.drop_of_length_le (by omega)]; simp
/-- Blocks of s elements (the last one of at most so many), each sorted. -/
inductive Blk (lt : α → α → Bool) (s : Nat) : List α → List α → Prop
  | last (l : List α) : l.length ≤ s → Blk lt s l (isort lt l)
  | cons (l1 l2 t2 : List α) : l1.length = s → Blk lt s l2 t2 → Blk lt s (l1 ++ l2) (isort lt l1 ++ t2)
theorem Blk.whole {s : Nat} {l t : List α} (h : Blk lt s l t) : l.length ≤ s → t = isort lt l := by
  induction h with
  | last l h => intro _; rfl
  | cons l1 l2 t2 h1 h2 ih =>
    intro h
    rw [List.length_append] at h
    have : l2 = [] := List.eq_nil_of_length_eq_zero (by omega)
    subst this
    rw [ih (by simp), isort_nil]; simp
theorem Blk.split {s : Nat} {l t : List α} (h : Blk lt s l t) (hl : s ≤ l.length) : ∃ l1 l2 t2, l = l1 ++ l2 ∧ l1.length = s ∧ t = isort lt l1 ++ t2 ∧ Blk lt s l2 t2 := by
  cases h with
  | last l h => exact ⟨l, [], [], by simp, by omega, by simp, Blk.last [] (by simp)⟩
  | cons l1 l2 t2 h1 h2 => exact ⟨l1, l2, t2, rfl, h1, rfl, h2⟩
theorem Blk.length {s : Nat} {l t : List α} (h : Blk lt s l t) : t.length = l.length := by
  induction h with
  | last l h => exact isort_length l
  | cons l1 l2 t2 h1 h2 ih => rw [List.length_append, List.length_append, isort_length, ih]
/-- The first pass: blocks that have been sorted, the rest as it was. -/
def Pass0 (lt : α → α → Bool) (s : Nat) (l : List α) (a : Nat) (d : Array α) : Prop := ∃ T lr : List α, d.toList = T ++ lr ∧ T.length = a ∧ lr.length + a = l.length ∧ ∀ t, Blk lt s lr t → Blk lt s l (T ++ t)
theorem Pass0.start (s : Nat) (d : Array α) : Pass0 lt s d.toList 0 d := ⟨[], d.toList, rfl, rfl, rfl, fun t h => h⟩
theorem Pass0.next {s a : Nat} {l : List α} {d : Array α} (h : Pass0 lt s l a d) (hb : a + s ≤ l.length) : ∃ pre seg post : List α, d.toList = pre ++ (seg ++ post) ∧ pre.length = a ∧ seg.length = s ∧ ∀ d' : Array α, d'.toList = pre ++ (isort lt seg ++ post) → Pass0 lt s l (a + s) d' := by
  obtain ⟨T, lr, hd, hT, hl, hc⟩ := h
  refine ⟨T, lr.take s, lr.drop s, by rw [hd, List.take_append_drop], hT, by rw [List.length_take]; omega, fun d' h' => ⟨T ++ isort lt (lr.take s), lr.drop s, by rw [h']; simp, by rw [List.length_append, isort_length, List.length_take]; omega, by rw [List.length_drop]; omega, fun t ht => ?_⟩⟩
  have := Blk.cons (lr.take s) (lr.drop s) t (by rw [List.length_take]; omega) ht
  rw [List.take_append_drop] at this
  rw [List.append_assoc]
  exact hc _ this
theorem Pass0.last {s a : Nat} {l : List α} {d : Array α} (h : Pass0 lt s l a d) (hb : ¬ a + s ≤ l.length) : ∃ pre seg : List α, d.toList = pre ++ (seg ++ []) ∧ pre.length = a ∧ seg.length + a = l.length ∧ ∀ d' : Array α, d'.toList = pre ++ (isort lt seg ++ []) → Blk lt s l d'.toList := by
  obtain ⟨T, lr, hd, hT, hl, hc⟩ := h
  refine ⟨T, lr, by rw [hd]; simp, hT, hl, fun d' h' => ?_⟩
  rw [h', List.append_nil]
  exact hc _ (Blk.last lr (by omega))
/-- A pass that joins neighbours: those that have been joined, the rest as it was. -/
def Pass (lt : α → α → Bool) (s : Nat) (l : List α) (a : Nat) (d : Array α) : Prop := ∃ T lr t : List α, d.toList = T ++ t ∧ T.length = a ∧ lr.length + a = l.length ∧ Blk lt s lr t ∧ ∀ t', Blk lt (2 * s) lr t' → Blk lt (2 * s) l (T ++ t')
theorem Pass.start {s : Nat} {l : List α} {d : Array α} (h : Blk lt s l d.toList) : Pass lt s l 0 d := ⟨[], l, d.toList, rfl, rfl, rfl, h, fun t h => h⟩
theorem Pass.next (O : Stable.Ord lt) {s a : Nat} {l : List α} {d : Array α} (h : Pass lt s l a d) (hb : a + 2 * s ≤ l.length) : ∃ pre U V post : List α, Two lt a (a + s) (a + 2 * s) pre U V post d ∧ ∀ d' : Array α, d'.toList = pre ++ (merge lt U V ++ post) → Pass lt s l (a + 2 * s) d' := by
  obtain ⟨T, lr, t, hd, hT, hl, hB, hc⟩ := h
  obtain ⟨l1, r1, t1, rfl, h1, rfl, hB1⟩ := hB.split (by omega)
  rw [List.length_append] at hl
  obtain ⟨l2, r2, t2, rfl, h2, rfl, hB2⟩ := hB1.split (by omega)
  rw [List.length_append] at hl
  refine ⟨T, isort lt l1, isort lt l2, t2, ⟨hd, hT, by rw [isort_length]; omega, by rw [isort_length]; omega, isort_sorted O l1, isort_sorted O l2⟩, fun d' h' => ⟨T ++ isort lt (l1 ++ l2), r2, t2, by rw [h', isort_append O]; simp, by rw [List.length_append, isort_length, List.length_append]; omega, by omega, hB2, fun t' ht' => ?_⟩⟩
  have := hc _ (by rw [← List.append_assoc]; exact Blk.cons (l1 ++ l2) r2 t' (by rw [List.length_append]; omega) ht')
  rwa [List.append_assoc]
theorem Pass.last (O : Stable.Ord lt) {s a : Nat} {l : List α} {d : Array α} (h : Pass lt s l a d) (hb : ¬ a + 2 * s ≤ l.length) (hm : a + s < l.length) : ∃ pre U V : List α, Two lt a (a + s) l.length pre U V [] d ∧ ∀ d' : Array α, d'.toList = pre ++ (merge lt U V ++ []) → Blk lt (2 * s) l d'.toList := by
  obtain ⟨T, lr, t, hd, hT, hl, hB, hc⟩ := h
  obtain ⟨l1, r1, t1, rfl, h1, rfl, hB1⟩ := hB.split (by omega)
  rw [List.length_append] at hl
  have e1 := hB1.whole (by omega)
  subst e1
  refine ⟨T, isort lt l1, isort lt r1, ⟨by rw [hd]; simp, hT, by rw [isort_length]; omega, by rw [isort_length]; omega, isort_sorted O l1, isort_sorted O r1⟩, fun d' h' => ?_⟩
  rw [h', List.append_nil, ← isort_append O]
  exact hc _ (Blk.last _ (by rw [List.length_append]; omega))
theorem Pass.none {s a : Nat} {l : List α} {d : Array α} (h : Pass lt s l a d) (hb : ¬ a + 2 * s ≤ l.length) (hm : ¬ a + s < l.length) : Blk lt (2 * s) l d.toList := by
  obtain ⟨T, lr, t, hd, hT, hl, hB, hc⟩ := h
  have e1 := hB.whole (by omega)
  rw [hd, e1]
  exact hc _ (Blk.last _ (by omega))
end
end Go.Proofs.YtcmiehddjgfjaaaGreat.St
