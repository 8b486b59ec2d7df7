/- A part of the proof of LawSeriesParts: contracts and plain laws, put together by a program of this session. -/
import Derived.Test.YtcmiehddjgfjaaaGreatCPar1
import Derived.RangeFuncNested
import Derived.RangeFuncBound
import Derived.RangeFuncCalls
import Derived.RangeFuncLeaves
import Derived.RangeFuncBox
import Derived.Shelf.Abstract
import Derived.Shelf.RegionOpen
import Derived.WalkKit
import Derived.OwnWalkIn
import Derived.TacticsInMore
import Derived.LoopNIn
import Derived.LoopIn
import Derived.Maps.AppendAt
import Derived.Shelf.SlSortCmp.KitK
import Derived.Test.YtcmiehddjgfjaaaGreatProg
import Derived.Shelf.SlSortCmp.ReverseRangeK
import Derived.Deep.Cut
import Derived.Deep.DeepCutAuto
import Derived.Shelf.SlicesQ.IndexFunc
import Derived.Deep.QuietTactic
import Derived.Laws.BitsAllLaws
import Derived.Laws.Bits64
set_option linter.unusedVariables false
set_option linter.unusedSimpArgs false
set_option linter.unusedSectionVars false
set_option maxHeartbeats 8000000
set_option maxRecDepth 100000
namespace Go.Proofs.YtcmiehddjgfjaaaGreat.A
open Go.RowKit Go.Proofs.YtcmiehddjgfjaaaGreatW.PrintWords Go.Proofs.YtcmiehddjgfjaaaGreatW.PrintLast Go.Proofs.YtcmiehddjgfjaaaGreatW.PrintMore
attribute [local go_sem] max2_int min2_int max_two min_two max_three min_three max_four min_four   -- for this text's walks alone
def q8_Do.j0 : Nat → ByteArray → List (S25) → Bool → Int → Int → Option (Int × Int × Int)
  | 0, _, _, _, _, _ => none
  | k + 1, x0, x1, x7, x390000, x390001 => if (x1.length : Int) = 2 then (if 0 < (x1.length : Int) then (if 1 < (x1.length : Int) then ((q8_two.f k x0 ((rd_T25 x1 0).f0) ((rd_T25 x1 0).f1) ((rd_T25 x1 1).f0) ((rd_T25 x1 1).f1)).bind fun bt396 => (if bt396.2.2 = true then (some (bt396.1, bt396.2.1, 0)) else (some (0, 0, 2)))) else (none)) else (none)) else (if x7 = true then (some (x390000, x390001, 0)) else (some (0, 0, 2)))
def q8_Do.f (k : Nat) (a0 : ByteArray) (l1 : List (S25)) : Option (Int × Int × Int) := (r8_Check.f k l1).bind fun t388 => (if t388 = 0 then (if (l1.length : Int) = 1 then (none) else (q8_Do.j0 k a0 l1 false 0 0)) else (some (0, 0, 80)))
def q8_Do.T7 : Bool × List (List Nat × List Nat) := (true, [([], []), ([], []), ([1], [1]), ([2], [2]), ([], []), ([4], [4]), ([5], [5]), ([0, 3, 6], [0, 3, 6]), ([7], [7]), ([8], [8]), ([8], [8]), ([9, 7, 0, 1, 2, 3, 4, 5, 6, 7, 8, 9], [9]), ([10, 11, 0, 1, 2, 3, 4, 5, 6, 7, 8, 9, 10, 11], [10])])
def q8_Do.B7 : List Nat := [0, 0, 2, 6, 0, 16, 48, 127, 255, 511, 511, 1023, 4095]
theorem q8_Do.tab7 : rtab .any (opsOf Tryz.f17 7) = q8_Do.T7 := by kernel_rfl
theorem q8_Do.bits7 : waitsOk q8_Do.T7.2 q8_Do.B7 = true := by kernel_rfl
theorem q8_Do.calls (k : Nat) (a0 : ByteArray) (A1 : Option Addr) (c1 : Nat) (l1 : List (S25)) (r1 : Int) (r2 : Int) (r3 : Int) (w : World) (hr1 : Kd.C k25 w A1 l1.length l1) (hc1 : l1.length ≤ c1) (h : q8_Do.f k a0 l1 = some (r1, r2, r3)) :
    Calls Tryz.prog 17 #[.string a0, .slice A1 l1.length c1] w fun e w' => e = .returned (.tuple #[.agg #[.int .i64 r1, .int .i64 r2], .int .i64 r3]) ∧ Below w.heap.size w w' := by
  have hu25 := Tryz.underlying25
  have HR1 := Sd.mk hr1
  have HC1 := Sd.mk hc1
  clear hr1 hc1
  have HB := Sd.mk (Below.refl w.heap.size w)
  have H : ((r8_Check.f k l1).bind fun t388 => (if t388 = 0 then (if (l1.length : Int) = 1 then (none) else (q8_Do.j0 k a0 l1 false 0 0)) else (some (0, 0, 80)))) = some (r1, r2, r3) := h
  clear h
  obtain ⟨t388, A3, H⟩ := bnd H
  by_cases c4 : t388 = 0
  · rw [if_pos c4] at H
    have c4b0 := beq_iff_eq.mpr c4
    have c4b1 := bne_eq_false_iff_eq.mpr c4
    clear c4
    have HC5 := Sd.mk H
    clear H
    go_enter Tryz.func17, Tryz.ntmps17
    go_upto_if 15 with (first | ((with_reducible refine gate_dst (N := 4) rfl ?_); refine bxe (N := 4) (cs := #[.int .i64 0, .int .i64 0]) (t := 25) ?_; intro gb387 hg w6 hbox hb; have BK387 := Sd.mk hbox; have GW387 := bge w hg; have GE387 := bge w hg; replace HB := bsq w hb; clear hb hbox hg) | ((with_reducible refine gate_callee (f := 59) rfl ?_); refine goesL_ (some 9) rfl rfl Tryz.func59 (by kernel_rfl) rfl #[.slice A1 l1.length c1] rfl ma ?_; (with_reducible refine (r8_Check.calls k _ _ l1 t388 _ ?side1 ?side2 A3.out).mono ?_); (case side1 => repeat (first | exact (Kd.C_below HR1.out HB.out) | (with_reducible refine Kd.C_alloc ?_ _) | (with_reducible refine Kd.C_drewN ?_ _) | (with_reducible refine Kd.C_drew ?_))); (case side2 => exact HC1.out); rintro e w7 ⟨rfl, hb⟩; refine ⟨_, rfl, ?_⟩; replace BK387 := bkb BK387 hb; replace HB := bsq w hb; (try clear hb)) | ((with_reducible refine gate_dst (N := 6) rfl ?_); refine bxe (N := 6) (cs := #[.int .i64 0, .int .i64 0]) (t := 25) ?_; intro gb389 hg w8 hbox hb; have BK389 := Sd.mk hbox; have GW389 := bge w hg; have GE389 := bge w hg; have NB387_389 := bnl BK387 hg; have NB389_387 := bng BK387 hg; replace BK387 := bkb BK387 hb; replace HB := bsq w hb; clear hb hbox hg; have hnb9 := NB389_387.out; have hnc9 := NB387_389.out; have hcz10_0 := bz0 BK389; have hcz10_1 := bz1 BK389; have hfz10_0 := blk_frozen BK389.out 0; have hfz10_1 := blk_frozen BK389.out 1))
    (try simp only [Act.put, List.setIfInBounds_toArray, List.set_cons_zero, List.set_cons_succ])
    go_cut [7] (fun v7 wc => ∃ (kq : Nat) (x7_4 : Bool) (x390000_4 : Int) (x390001_4 : Int), v7 = .bool x7_4 ∧ Sd (q8_Do.j0 kq a0 l1 x7_4 x390000_4 x390001_4 = some (r1, r2, r3)) ∧ Sd (kq ≤ k) ∧ Sd (wc.heap[gb387]? = some (.cells #[.int .i64 0, .int .i64 0] 25 (0, 0))) ∧ Sd (wc.heap[gb389]? = some (.cells #[.int .i64 x390000_4, .int .i64 x390001_4] 25 (0, 0))) ∧ Sd (Below w.heap.size w wc))
    case first =>
      have H := HC5.out
      clear HC5
      by_cases c11 : (l1.length : Int) = 1
      · rw [if_pos c11] at H; cases H
      · rw [if_neg c11] at H
        have c11b0 : ((l1.length : Int) == 1) = false := beq_eq_false_iff_ne.mpr c11
        have c11b1 : ((l1.length : Int) != 1) = true := bne_iff_ne.mpr c11
        (first | rw [c11b0] | (simp only [i64_w, i32_w]; rw [c11b0]) | skip)
        have H' := Sd.mk H
        clear H
        go_wp2
        go_meet
        case rel => exact ⟨_, (false), (0), (0), ae, H', ⟨by first | omega | exact Nat.le_refl _⟩, ⟨by (repeat refine dw ?_); refine blk_far ?_ NB387_389.out _; (repeat refine dw ?_); refine blk_far ?_ NB387_389.out _; (repeat refine dw ?_); exact BK387.out⟩, ⟨by (repeat refine dw ?_); refine blk_put (cs := #[.int .i64 0, .int .i64 0]) ?_ 1 _ rfl; (repeat refine dw ?_); refine blk_put (cs := #[.int .i64 0, .int .i64 0]) ?_ 0 _ rfl; (repeat refine dw ?_); exact BK389.out⟩, ⟨bbl⟩⟩
    case rest =>
      clear HC5
      obtain ⟨kq, x7_4, x390000_4, x390001_4, rfl, HA, HJ4, BK387, BK389, HB⟩ := hcut
      cases kq with
      | zero => exact absurd HA.out (by simp [q8_Do.j0])
      | succ kj4 =>
        have H := HA.out
        clear HA
        simp only [q8_Do.j0] at H
        by_cases c17 : (l1.length : Int) = 2
        · rw [if_pos c17] at H
          have c17b0 : ((l1.length : Int) == 2) = true := beq_iff_eq.mpr c17
          have c17b1 : ((l1.length : Int) != 2) = false := bne_eq_false_iff_eq.mpr c17
          clear c17
          by_cases c18 : 0 < (l1.length : Int)
          · rw [if_pos c18] at H
            have c18b0 : decide (0 < (l1.length : Int)) = true := decide_eq_true c18
            have c18b1 : decide (0 < l1.length) = true := decide_eq_true (by omega)
            clear c18
            by_cases c19 : 1 < (l1.length : Int)
            · rw [if_pos c19] at H
              have c19b0 : decide (1 < (l1.length : Int)) = true := decide_eq_true c19
              have c19b1 : decide (1 < l1.length) = true := decide_eq_true (by omega)
              clear c19
              obtain ⟨⟨t396, t397, t398⟩, A20, H⟩ := bnd H
              replace H : (if t398 = true then (some (t396, t397, 0)) else (some (0, 0, 2))) = some (r1, r2, r3) := H
              by_cases c21 : t398 = true
              · subst c21
                replace H := iT H
                simp only [Option.some.injEq, Prod.mk.injEq] at H
                obtain ⟨rfl, rfl, rfl⟩ := H
                try go_wp2
                have n0_ := Sd.mk (blk_drew BK387.out)
                have n1_ := Sd.mk (blk_drew BK389.out)
                have n2_ := Sd.mk (bd1 HB.out)
                clear BK387 BK389 HB
                have BK387 := n0_
                have BK389 := n1_
                have HB := n2_
                clear n0_ n1_ n2_
                have p394 : 0 ≤ (0 : Int) := (by omega)
                have q394 : 0 < (l1.length : Int) := ode
                obtain ⟨ad394, e394, hx394_0, hx394_1⟩ := at_T25 HR1.out 0 p394 q394
                have hw394_1 := hx394_1
                (try rw [show ((0 : Int)).toNat = 0 from rfl] at hw394_1)
                (try rw [show 0 * 2 = 0 from rfl] at hw394_1)
                (try rw [Addr.add_zero'] at hw394_1)
                have hw394_0 := hx394_0
                (try rw [show ((0 : Int)).toNat = 0 from rfl] at hw394_0)
                (try rw [show 0 * 2 = 0 from rfl] at hw394_0)
                (try rw [Addr.add_zero'] at hw394_0)
                cases e394
                have qi394 : (0 < l1.length) = True := eq_true (by omega)
                (try rw [show ((0 : Int)).toNat = 0 from rfl] at hx394_0)
                (try rw [show 0 * 2 = 0 from rfl] at hx394_0)
                (try rw [Addr.add_zero'] at hx394_0)
                (try rw [show ((0 : Int)).toNat = 0 from rfl] at hx394_1)
                (try rw [show 0 * 2 = 0 from rfl] at hx394_1)
                (try rw [Addr.add_zero'] at hx394_1)
                replace hx394_0 := hxc HB hx394_0
                replace hx394_1 := hxc HB hx394_1
                replace p394 := eq_true p394
                replace q394 := eq_true q394
                have p395 : 0 ≤ (1 : Int) := (by omega)
                have q395 : 1 < (l1.length : Int) := ode
                obtain ⟨ad395, e395, hx395_0, hx395_1⟩ := at_T25 HR1.out 1 p395 q395
                have hw395_1 := hx395_1
                (try rw [show ((1 : Int)).toNat = 1 from rfl] at hw395_1)
                (try rw [show 1 * 2 = 2 from rfl] at hw395_1)
                (try simp only [Nat.reduceMul, Nat.reduceEqDiff, Go.Addr.add, ↓reduceIte] at hw395_1)
                have hw395_0 := hx395_0
                (try rw [show ((1 : Int)).toNat = 1 from rfl] at hw395_0)
                (try rw [show 1 * 2 = 2 from rfl] at hw395_0)
                (try simp only [Nat.reduceMul, Nat.reduceEqDiff, Go.Addr.add, ↓reduceIte] at hw395_0)
                obtain rfl : ad394 = ad395 := (by injection e395)
                (try simp only [show (1 : Int).toNat = 1 from rfl, Nat.reduceMul, Nat.reduceEqDiff, Go.Addr.add, ↓reduceIte] at hx395_0)
                (try simp only [show (1 : Int).toNat = 1 from rfl, Nat.reduceMul, Nat.reduceEqDiff, Go.Addr.add, ↓reduceIte] at hx395_1)
                have qi395 : (1 < l1.length) = True := eq_true (by omega)
                (try rw [show ((1 : Int)).toNat = 1 from rfl] at hx395_0)
                (try rw [show 1 * 2 = 2 from rfl] at hx395_0)
                (try rw [show ((1 : Int)).toNat = 1 from rfl] at hx395_1)
                (try rw [show 1 * 2 = 2 from rfl] at hx395_1)
                replace hx395_0 := hxc HB hx395_0
                replace hx395_1 := hxc HB hx395_1
                replace p395 := eq_true p395
                replace q395 := eq_true q395
                refine start_ (n := 13) (S := fun w' => w'.cell? ad394 = some (.int .i64 ((rd_T25 l1 0).f0)) ∧ w'.cell? ⟨ad394.block, ad394.off + 1, none⟩ = some (.int .i64 ((rd_T25 l1 0).f1)) ∧ w'.cell? ⟨ad394.block, ad394.off + 2, none⟩ = some (.int .i64 ((rd_T25 l1 1).f0)) ∧ w'.cell? ⟨ad394.block, ad394.off + 2 + 1, none⟩ = some (.int .i64 ((rd_T25 l1 1).f1))) (ds := []) #[false, false, false, false, false, false, false, false, false, false, false, false, false] (by kernel_rfl) rfl rfl ⟨((HB.out.cell (World.block_lt_of_cell? w _ hw394_0)).trans hw394_0), ((HB.out.cell (World.block_lt_of_cell? w _ hw394_1)).trans hw394_1), ((HB.out.cell (World.block_lt_of_cell? w _ hw395_0)).trans hw395_0), ((HB.out.cell (World.block_lt_of_cell? w _ hw395_1)).trans hw395_1)⟩ (fun hHeld => ?_); refine with_tabW q8_Do.tab7 q8_Do.bits7 (fun HT_ HW_ => ?_)
                generalize wc.drew = w22 at BK387 BK389 HB hx394_0 hx394_1 hx395_0 hx395_1 hHeld ⊢
                refine pure_ (i := 0) (N := some 28) (v := ?_) (a' := ?_) #[true, false, false, false, false, false, false, false, false, false, false, false, false] rfl rfl (any_of HT_.out (by kernel_rfl)) (fun _ _ _ h => h) (Or.inl ⟨by rfl, ?_⟩) ?_ ?_
                rotate_left
                · intro w'
                  go_simp
                  with_reducible rfl
                rotate_left
                · simp only [Act.put, List.setIfInBounds_toArray, List.set_cons_zero, List.set_cons_succ, i64_w, i32_w]
                  rfl
                refine pure_ (i := 1) (N := some 29) (v := ?_) (a' := ?_) #[true, true, false, false, false, false, false, false, false, false, false, false, false] rfl rfl (any_of HT_.out (by kernel_rfl)) (fun _ _ _ h => h) (Or.inl ⟨by rfl, ?_⟩) ?_ ?_
                rotate_left
                · intro w'
                  go_simp
                  with_reducible rfl
                rotate_left
                · simp only [Act.put, List.setIfInBounds_toArray, List.set_cons_zero, List.set_cons_succ, i64_w, i32_w]
                  rfl
                refine pure_ (i := 2) (N := some 30) (v := ?_) (a' := ?_) #[true, true, true, false, false, false, false, false, false, false, false, false, false] rfl rfl (any_of HT_.out (by kernel_rfl)) (fun _ _ _ h => h) (Or.inl ⟨by rfl, ?_⟩) ?_ ?_
                rotate_left
                · intro w'
                  go_simp
                  with_reducible rfl
                rotate_left
                · simp only [Act.put, List.setIfInBounds_toArray, List.set_cons_zero, List.set_cons_succ, i64_w, i32_w]
                  rfl
                refine pure_ (i := 4) (N := some 32) (v := ?_) (a' := ?_) #[true, true, true, false, true, false, false, false, false, false, false, false, false] rfl rfl (any_of HT_.out (by kernel_rfl)) (fun _ _ _ h => h) (Or.inl ⟨by rfl, ?_⟩) ?_ ?_
                rotate_left
                · intro w'
                  go_simp
                  with_reducible rfl
                rotate_left
                · simp only [Act.put, List.setIfInBounds_toArray, List.set_cons_zero, List.set_cons_succ, i64_w, i32_w]
                  rfl
                refine pure_ (i := 5) (N := some 33) (v := ?_) (a' := ?_) #[true, true, true, false, true, true, false, false, false, false, false, false, false] rfl rfl (any_of HT_.out (by kernel_rfl)) (fun _ _ _ h => h) (Or.inl ⟨by rfl, ?_⟩) ?_ ?_
                rotate_left
                · intro w'
                  go_simp
                  with_reducible rfl
                rotate_left
                · simp only [Act.put, List.setIfInBounds_toArray, List.set_cons_zero, List.set_cons_succ, i64_w, i32_w]
                  rfl
                refine take_ (i := 3) (N := some 31) (v := ?_) (a' := ?_) #[true, true, true, true, true, true, false, false, false, false, false, false, false] rfl rfl (take_ofW HT_.out HW_.out (by kernel_rfl)) (fun _ _ _ h => h) (Or.inl ⟨by rfl, ?_⟩) hHeld ?_ ?_
                rotate_left
                · rintro w' ⟨s0, s1, s2, s3⟩
                  go_simp
                  with_reducible rfl
                rotate_left
                · simp only [Act.put, List.setIfInBounds_toArray, List.set_cons_zero, List.set_cons_succ, i64_w, i32_w]
                  rfl
                refine take_ (i := 6) (N := some 34) (v := ?_) (a' := ?_) #[true, true, true, true, true, true, true, false, false, false, false, false, false] rfl rfl (take_ofW HT_.out HW_.out (by kernel_rfl)) (fun _ _ _ h => h) (Or.inl ⟨by rfl, ?_⟩) hHeld ?_ ?_
                rotate_left
                · rintro w' ⟨s0, s1, s2, s3⟩
                  go_simp
                  with_reducible rfl
                rotate_left
                · simp only [Act.put, List.setIfInBounds_toArray, List.set_cons_zero, List.set_cons_succ, i64_w, i32_w]
                  rfl
                refine one_ (i := 7) (N := some 35) #[true, true, true, true, true, true, true, true, false, false, false, false, false] rfl rfl (one_of HT_.out (by kernel_rfl)) (by decide) (fun K hK => ?_)
                refine goes_ Tryz.func61 (by kernel_rfl) rfl #[.string a0, .agg #[.int .i64 ((rd_T25 l1 0).f0), .int .i64 ((rd_T25 l1 0).f1)], .agg #[.int .i64 ((rd_T25 l1 1).f0), .int .i64 ((rd_T25 l1 1).f1)]] (by rfl) rfl rfl ma ?_
                with_reducible refine (q8_two.calls kj4 a0 ((rd_T25 l1 0).f0) ((rd_T25 l1 0).f1) ((rd_T25 l1 1).f0) ((rd_T25 l1 1).f1) t396 t397 true _ A20.out).mono ?_
                rintro e w23 ⟨rfl, hb⟩
                refine ⟨_, rfl, ?_⟩
                have n0_ := bkb BK387 hb
                have n1_ := bkb BK389 hb
                have n2_ := bsq w hb
                clear BK387 BK389 HB
                have BK387 := n0_
                have BK389 := n1_
                have HB := n2_
                clear n0_ n1_ n2_
                (try clear hb)
                (try clear hb2)
                (try clear hk)
                (try clear hi)
                refine hK.out _ _ ⟨((HB.out.cell (World.block_lt_of_cell? w _ hw394_0)).trans hw394_0), ((HB.out.cell (World.block_lt_of_cell? w _ hw394_1)).trans hw394_1), ((HB.out.cell (World.block_lt_of_cell? w _ hw395_0)).trans hw395_0), ((HB.out.cell (World.block_lt_of_cell? w _ hw395_1)).trans hw395_1)⟩ (fun hHeld => ?_)
                clear hK K
                refine norm_ (a' := ?_) ?_ ?_
                rotate_left
                · show Act.put _ (some 35) _ = _
                  simp only [Act.put, List.setIfInBounds_toArray, List.set_cons_zero, List.set_cons_succ, i64_w, i32_w]
                  rfl
                refine pure_ (i := 8) (N := some 27) (v := ?_) (a' := ?_) #[true, true, true, true, true, true, true, true, true, false, false, false, false] rfl rfl (any_of HT_.out (by kernel_rfl)) (fun _ _ _ h => h) (Or.inl ⟨by rfl, ?_⟩) ?_ ?_
                rotate_left
                · intro w'
                  go_simp
                  with_reducible rfl
                rotate_left
                · simp only [Act.put, List.setIfInBounds_toArray, List.set_cons_zero, List.set_cons_succ, i64_w, i32_w]
                  rfl
                refine pure_ (i := 9) (N := some 36) (v := ?_) (a' := ?_) #[true, true, true, true, true, true, true, true, true, true, false, false, false] rfl rfl (any_of HT_.out (by kernel_rfl)) (fun _ _ _ h => h) (Or.inl ⟨by rfl, ?_⟩) ?_ ?_
                rotate_left
                · intro w'
                  go_simp
                  with_reducible rfl
                rotate_left
                · simp only [Act.put, List.setIfInBounds_toArray, List.set_cons_zero, List.set_cons_succ, i64_w, i32_w]
                  rfl
                refine pure_ (i := 10) (N := some 37) (v := ?_) (a' := ?_) #[true, true, true, true, true, true, true, true, true, true, true, false, false] rfl rfl (any_of HT_.out (by kernel_rfl)) (fun _ _ _ h => h) (Or.inl ⟨by rfl, ?_⟩) ?_ ?_
                rotate_left
                · intro w'
                  go_simp
                  with_reducible rfl
                rotate_left
                · simp only [Act.put, List.setIfInBounds_toArray, List.set_cons_zero, List.set_cons_succ, i64_w, i32_w]
                  rfl
                refine one_ (i := 11) (N := none) #[true, true, true, true, true, true, true, true, true, true, true, true, false] rfl rfl (one_of HT_.out (by kernel_rfl)) (by decide) (fun K hK => ?_)
                have hs24 : w23.cell? ⟨gb389, 0, none⟩ = some (.int .i64 x390000_4) := (blk_cell BK389.out 0).trans rfl
                have hfs24 := blk_frozen BK389.out 0
                have hns24_0 := NB387_389.out
                have hms24_0 := NB389_387.out
                have hs25 : w23.cell? ⟨gb389, 1, none⟩ = some (.int .i64 x390001_4) := (blk_cell BK389.out 1).trans rfl
                have hfs25 := blk_frozen BK389.out 1
                have hns25_0 := NB387_389.out
                have hms25_0 := NB389_387.out
                refine skip_ (w1 := ?_) (by rfl) rfl ?_ ?_
                rotate_left
                · go_simp
                  rfl
                refine hK.out _ _ ⟨((cell_far (p := ⟨gb389, _, none⟩) (by first | exact Nat.ne_of_lt (Nat.lt_of_lt_of_le (by have := World.block_lt_of_cell? _ _ hw394_0; first | rwa [add_block] at this | exact this) GW389.out) | (rw [add_block]; exact Nat.ne_of_lt (Nat.lt_of_lt_of_le (by have := World.block_lt_of_cell? _ _ hw394_0; first | rwa [add_block] at this | exact this) GW389.out)) | (show (Addr.add _ _).block ≠ _; rw [add_block]; exact Nat.ne_of_lt (Nat.lt_of_lt_of_le (by have := World.block_lt_of_cell? _ _ hw394_0; first | rwa [add_block] at this | exact this) GW389.out)) | (dsimp only; exact Nat.ne_of_lt (Nat.lt_of_lt_of_le (by have := World.block_lt_of_cell? _ _ hw394_0; first | rwa [add_block] at this | exact this) GW389.out))) _).trans (((cell_far (p := ⟨gb389, _, none⟩) (by first | exact Nat.ne_of_lt (Nat.lt_of_lt_of_le (by have := World.block_lt_of_cell? _ _ hw394_0; first | rwa [add_block] at this | exact this) GW389.out) | (rw [add_block]; exact Nat.ne_of_lt (Nat.lt_of_lt_of_le (by have := World.block_lt_of_cell? _ _ hw394_0; first | rwa [add_block] at this | exact this) GW389.out)) | (show (Addr.add _ _).block ≠ _; rw [add_block]; exact Nat.ne_of_lt (Nat.lt_of_lt_of_le (by have := World.block_lt_of_cell? _ _ hw394_0; first | rwa [add_block] at this | exact this) GW389.out)) | (dsimp only; exact Nat.ne_of_lt (Nat.lt_of_lt_of_le (by have := World.block_lt_of_cell? _ _ hw394_0; first | rwa [add_block] at this | exact this) GW389.out))) _).trans (hHeld.1)))), ((cell_far (p := ⟨gb389, _, none⟩) (by first | exact Nat.ne_of_lt (Nat.lt_of_lt_of_le (by have := World.block_lt_of_cell? _ _ hw394_1; first | rwa [add_block] at this | exact this) GW389.out) | (rw [add_block]; exact Nat.ne_of_lt (Nat.lt_of_lt_of_le (by have := World.block_lt_of_cell? _ _ hw394_1; first | rwa [add_block] at this | exact this) GW389.out)) | (show (Addr.add _ _).block ≠ _; rw [add_block]; exact Nat.ne_of_lt (Nat.lt_of_lt_of_le (by have := World.block_lt_of_cell? _ _ hw394_1; first | rwa [add_block] at this | exact this) GW389.out)) | (dsimp only; exact Nat.ne_of_lt (Nat.lt_of_lt_of_le (by have := World.block_lt_of_cell? _ _ hw394_1; first | rwa [add_block] at this | exact this) GW389.out))) _).trans (((cell_far (p := ⟨gb389, _, none⟩) (by first | exact Nat.ne_of_lt (Nat.lt_of_lt_of_le (by have := World.block_lt_of_cell? _ _ hw394_1; first | rwa [add_block] at this | exact this) GW389.out) | (rw [add_block]; exact Nat.ne_of_lt (Nat.lt_of_lt_of_le (by have := World.block_lt_of_cell? _ _ hw394_1; first | rwa [add_block] at this | exact this) GW389.out)) | (show (Addr.add _ _).block ≠ _; rw [add_block]; exact Nat.ne_of_lt (Nat.lt_of_lt_of_le (by have := World.block_lt_of_cell? _ _ hw394_1; first | rwa [add_block] at this | exact this) GW389.out)) | (dsimp only; exact Nat.ne_of_lt (Nat.lt_of_lt_of_le (by have := World.block_lt_of_cell? _ _ hw394_1; first | rwa [add_block] at this | exact this) GW389.out))) _).trans (hHeld.2.1)))), ((cell_far (p := ⟨gb389, _, none⟩) (by first | exact Nat.ne_of_lt (Nat.lt_of_lt_of_le (by have := World.block_lt_of_cell? _ _ hw395_0; first | rwa [add_block] at this | exact this) GW389.out) | (rw [add_block]; exact Nat.ne_of_lt (Nat.lt_of_lt_of_le (by have := World.block_lt_of_cell? _ _ hw395_0; first | rwa [add_block] at this | exact this) GW389.out)) | (show (Addr.add _ _).block ≠ _; rw [add_block]; exact Nat.ne_of_lt (Nat.lt_of_lt_of_le (by have := World.block_lt_of_cell? _ _ hw395_0; first | rwa [add_block] at this | exact this) GW389.out)) | (dsimp only; exact Nat.ne_of_lt (Nat.lt_of_lt_of_le (by have := World.block_lt_of_cell? _ _ hw395_0; first | rwa [add_block] at this | exact this) GW389.out))) _).trans (((cell_far (p := ⟨gb389, _, none⟩) (by first | exact Nat.ne_of_lt (Nat.lt_of_lt_of_le (by have := World.block_lt_of_cell? _ _ hw395_0; first | rwa [add_block] at this | exact this) GW389.out) | (rw [add_block]; exact Nat.ne_of_lt (Nat.lt_of_lt_of_le (by have := World.block_lt_of_cell? _ _ hw395_0; first | rwa [add_block] at this | exact this) GW389.out)) | (show (Addr.add _ _).block ≠ _; rw [add_block]; exact Nat.ne_of_lt (Nat.lt_of_lt_of_le (by have := World.block_lt_of_cell? _ _ hw395_0; first | rwa [add_block] at this | exact this) GW389.out)) | (dsimp only; exact Nat.ne_of_lt (Nat.lt_of_lt_of_le (by have := World.block_lt_of_cell? _ _ hw395_0; first | rwa [add_block] at this | exact this) GW389.out))) _).trans (hHeld.2.2.1)))), ((cell_far (p := ⟨gb389, _, none⟩) (by first | exact Nat.ne_of_lt (Nat.lt_of_lt_of_le (by have := World.block_lt_of_cell? _ _ hw395_1; first | rwa [add_block] at this | exact this) GW389.out) | (rw [add_block]; exact Nat.ne_of_lt (Nat.lt_of_lt_of_le (by have := World.block_lt_of_cell? _ _ hw395_1; first | rwa [add_block] at this | exact this) GW389.out)) | (show (Addr.add _ _).block ≠ _; rw [add_block]; exact Nat.ne_of_lt (Nat.lt_of_lt_of_le (by have := World.block_lt_of_cell? _ _ hw395_1; first | rwa [add_block] at this | exact this) GW389.out)) | (dsimp only; exact Nat.ne_of_lt (Nat.lt_of_lt_of_le (by have := World.block_lt_of_cell? _ _ hw395_1; first | rwa [add_block] at this | exact this) GW389.out))) _).trans (((cell_far (p := ⟨gb389, _, none⟩) (by first | exact Nat.ne_of_lt (Nat.lt_of_lt_of_le (by have := World.block_lt_of_cell? _ _ hw395_1; first | rwa [add_block] at this | exact this) GW389.out) | (rw [add_block]; exact Nat.ne_of_lt (Nat.lt_of_lt_of_le (by have := World.block_lt_of_cell? _ _ hw395_1; first | rwa [add_block] at this | exact this) GW389.out)) | (show (Addr.add _ _).block ≠ _; rw [add_block]; exact Nat.ne_of_lt (Nat.lt_of_lt_of_le (by have := World.block_lt_of_cell? _ _ hw395_1; first | rwa [add_block] at this | exact this) GW389.out)) | (dsimp only; exact Nat.ne_of_lt (Nat.lt_of_lt_of_le (by have := World.block_lt_of_cell? _ _ hw395_1; first | rwa [add_block] at this | exact this) GW389.out))) _).trans (hHeld.2.2.2))))⟩ (fun hHeld => ?_)
                clear hK K
                refine pure_ (i := 12) (N := some 7) (v := ?_) (a' := ?_) #[true, true, true, true, true, true, true, true, true, true, true, true, true] rfl rfl (any_of HT_.out (by kernel_rfl)) (fun _ _ _ h => h) (Or.inl ⟨by rfl, ?_⟩) ?_ ?_
                rotate_left
                · intro w'
                  go_simp
                  with_reducible rfl
                rotate_left
                · simp only [Act.put, List.setIfInBounds_toArray, List.set_cons_zero, List.set_cons_succ, i64_w, i32_w]
                  rfl
                refine done_ (done_of HT_.out (by kernel_rfl)) ?_
                have hnb26 := NB389_387.out
                have hnc26 := NB387_389.out
                obtain ⟨hcz27_0, hcz27_1, hfz27_0, hfz27_1⟩ := bz BK389
                obtain ⟨hcz28_0, hcz28_1, hfz28_0, hfz28_1⟩ := bz BK387
                try go_wp2
                refine bodyPost_ret (results_ct rfl _ _ gb387 25 #[.int .i64 t396, .int .i64 t397] (0, 0) _ rfl (by (repeat refine dw ?_); refine blk_put (cs := #[.int .i64 t396, .int .i64 0]) ?_ 1 _ rfl; (repeat refine dw ?_); refine blk_put (cs := #[.int .i64 0, .int .i64 0]) ?_ 0 _ rfl; (repeat refine dw ?_); refine blk_far ?_ NB387_389.out _; (repeat refine dw ?_); refine blk_far ?_ NB387_389.out _; (repeat refine dw ?_); exact BK387.out) Tryz.underlying25 rfl (by kernel_rfl)) rfl ?_
                exact ⟨fe, bbl⟩
              · replace c21 := Bool.eq_false_iff.mpr c21
                subst c21
                replace H := iF H
                simp only [Option.some.injEq, Prod.mk.injEq] at H
                obtain ⟨rfl, rfl, rfl⟩ := H
                try go_wp2
                have n0_ := Sd.mk (blk_drew BK387.out)
                have n1_ := Sd.mk (blk_drew BK389.out)
                have n2_ := Sd.mk (bd1 HB.out)
                clear BK387 BK389 HB
                have BK387 := n0_
                have BK389 := n1_
                have HB := n2_
                clear n0_ n1_ n2_
                have p394 : 0 ≤ (0 : Int) := (by omega)
                have q394 : 0 < (l1.length : Int) := ode
                obtain ⟨ad394, e394, hx394_0, hx394_1⟩ := at_T25 HR1.out 0 p394 q394
                have hw394_1 := hx394_1
                (try rw [show ((0 : Int)).toNat = 0 from rfl] at hw394_1)
                (try rw [show 0 * 2 = 0 from rfl] at hw394_1)
                (try rw [Addr.add_zero'] at hw394_1)
                have hw394_0 := hx394_0
                (try rw [show ((0 : Int)).toNat = 0 from rfl] at hw394_0)
                (try rw [show 0 * 2 = 0 from rfl] at hw394_0)
                (try rw [Addr.add_zero'] at hw394_0)
                cases e394
                have qi394 : (0 < l1.length) = True := eq_true (by omega)
                (try rw [show ((0 : Int)).toNat = 0 from rfl] at hx394_0)
                (try rw [show 0 * 2 = 0 from rfl] at hx394_0)
                (try rw [Addr.add_zero'] at hx394_0)
                (try rw [show ((0 : Int)).toNat = 0 from rfl] at hx394_1)
                (try rw [show 0 * 2 = 0 from rfl] at hx394_1)
                (try rw [Addr.add_zero'] at hx394_1)
                replace hx394_0 := hxc HB hx394_0
                replace hx394_1 := hxc HB hx394_1
                replace p394 := eq_true p394
                replace q394 := eq_true q394
                have p395 : 0 ≤ (1 : Int) := (by omega)
                have q395 : 1 < (l1.length : Int) := ode
                obtain ⟨ad395, e395, hx395_0, hx395_1⟩ := at_T25 HR1.out 1 p395 q395
                have hw395_1 := hx395_1
                (try rw [show ((1 : Int)).toNat = 1 from rfl] at hw395_1)
                (try rw [show 1 * 2 = 2 from rfl] at hw395_1)
                (try simp only [Nat.reduceMul, Nat.reduceEqDiff, Go.Addr.add, ↓reduceIte] at hw395_1)
                have hw395_0 := hx395_0
                (try rw [show ((1 : Int)).toNat = 1 from rfl] at hw395_0)
                (try rw [show 1 * 2 = 2 from rfl] at hw395_0)
                (try simp only [Nat.reduceMul, Nat.reduceEqDiff, Go.Addr.add, ↓reduceIte] at hw395_0)
                obtain rfl : ad394 = ad395 := (by injection e395)
                (try simp only [show (1 : Int).toNat = 1 from rfl, Nat.reduceMul, Nat.reduceEqDiff, Go.Addr.add, ↓reduceIte] at hx395_0)
                (try simp only [show (1 : Int).toNat = 1 from rfl, Nat.reduceMul, Nat.reduceEqDiff, Go.Addr.add, ↓reduceIte] at hx395_1)
                have qi395 : (1 < l1.length) = True := eq_true (by omega)
                (try rw [show ((1 : Int)).toNat = 1 from rfl] at hx395_0)
                (try rw [show 1 * 2 = 2 from rfl] at hx395_0)
                (try rw [show ((1 : Int)).toNat = 1 from rfl] at hx395_1)
                (try rw [show 1 * 2 = 2 from rfl] at hx395_1)
                replace hx395_0 := hxc HB hx395_0
                replace hx395_1 := hxc HB hx395_1
                replace p395 := eq_true p395
                replace q395 := eq_true q395
                refine start_ (n := 13) (S := fun w' => w'.cell? ad394 = some (.int .i64 ((rd_T25 l1 0).f0)) ∧ w'.cell? ⟨ad394.block, ad394.off + 1, none⟩ = some (.int .i64 ((rd_T25 l1 0).f1)) ∧ w'.cell? ⟨ad394.block, ad394.off + 2, none⟩ = some (.int .i64 ((rd_T25 l1 1).f0)) ∧ w'.cell? ⟨ad394.block, ad394.off + 2 + 1, none⟩ = some (.int .i64 ((rd_T25 l1 1).f1))) (ds := []) #[false, false, false, false, false, false, false, false, false, false, false, false, false] (by kernel_rfl) rfl rfl ⟨((HB.out.cell (World.block_lt_of_cell? w _ hw394_0)).trans hw394_0), ((HB.out.cell (World.block_lt_of_cell? w _ hw394_1)).trans hw394_1), ((HB.out.cell (World.block_lt_of_cell? w _ hw395_0)).trans hw395_0), ((HB.out.cell (World.block_lt_of_cell? w _ hw395_1)).trans hw395_1)⟩ (fun hHeld => ?_); refine with_tabW q8_Do.tab7 q8_Do.bits7 (fun HT_ HW_ => ?_)
                generalize wc.drew = w29 at BK387 BK389 HB hx394_0 hx394_1 hx395_0 hx395_1 hHeld ⊢
                refine pure_ (i := 0) (N := some 28) (v := ?_) (a' := ?_) #[true, false, false, false, false, false, false, false, false, false, false, false, false] rfl rfl (any_of HT_.out (by kernel_rfl)) (fun _ _ _ h => h) (Or.inl ⟨by rfl, ?_⟩) ?_ ?_
                rotate_left
                · intro w'
                  go_simp
                  with_reducible rfl
                rotate_left
                · simp only [Act.put, List.setIfInBounds_toArray, List.set_cons_zero, List.set_cons_succ, i64_w, i32_w]
                  rfl
                refine pure_ (i := 1) (N := some 29) (v := ?_) (a' := ?_) #[true, true, false, false, false, false, false, false, false, false, false, false, false] rfl rfl (any_of HT_.out (by kernel_rfl)) (fun _ _ _ h => h) (Or.inl ⟨by rfl, ?_⟩) ?_ ?_
                rotate_left
                · intro w'
                  go_simp
                  with_reducible rfl
                rotate_left
                · simp only [Act.put, List.setIfInBounds_toArray, List.set_cons_zero, List.set_cons_succ, i64_w, i32_w]
                  rfl
                refine pure_ (i := 2) (N := some 30) (v := ?_) (a' := ?_) #[true, true, true, false, false, false, false, false, false, false, false, false, false] rfl rfl (any_of HT_.out (by kernel_rfl)) (fun _ _ _ h => h) (Or.inl ⟨by rfl, ?_⟩) ?_ ?_
                rotate_left
                · intro w'
                  go_simp
                  with_reducible rfl
                rotate_left
                · simp only [Act.put, List.setIfInBounds_toArray, List.set_cons_zero, List.set_cons_succ, i64_w, i32_w]
                  rfl
                refine pure_ (i := 4) (N := some 32) (v := ?_) (a' := ?_) #[true, true, true, false, true, false, false, false, false, false, false, false, false] rfl rfl (any_of HT_.out (by kernel_rfl)) (fun _ _ _ h => h) (Or.inl ⟨by rfl, ?_⟩) ?_ ?_
                rotate_left
                · intro w'
                  go_simp
                  with_reducible rfl
                rotate_left
                · simp only [Act.put, List.setIfInBounds_toArray, List.set_cons_zero, List.set_cons_succ, i64_w, i32_w]
                  rfl
                refine pure_ (i := 5) (N := some 33) (v := ?_) (a' := ?_) #[true, true, true, false, true, true, false, false, false, false, false, false, false] rfl rfl (any_of HT_.out (by kernel_rfl)) (fun _ _ _ h => h) (Or.inl ⟨by rfl, ?_⟩) ?_ ?_
                rotate_left
                · intro w'
                  go_simp
                  with_reducible rfl
                rotate_left
                · simp only [Act.put, List.setIfInBounds_toArray, List.set_cons_zero, List.set_cons_succ, i64_w, i32_w]
                  rfl
                refine take_ (i := 3) (N := some 31) (v := ?_) (a' := ?_) #[true, true, true, true, true, true, false, false, false, false, false, false, false] rfl rfl (take_ofW HT_.out HW_.out (by kernel_rfl)) (fun _ _ _ h => h) (Or.inl ⟨by rfl, ?_⟩) hHeld ?_ ?_
                rotate_left
                · rintro w' ⟨s0, s1, s2, s3⟩
                  go_simp
                  with_reducible rfl
                rotate_left
                · simp only [Act.put, List.setIfInBounds_toArray, List.set_cons_zero, List.set_cons_succ, i64_w, i32_w]
                  rfl
                refine take_ (i := 6) (N := some 34) (v := ?_) (a' := ?_) #[true, true, true, true, true, true, true, false, false, false, false, false, false] rfl rfl (take_ofW HT_.out HW_.out (by kernel_rfl)) (fun _ _ _ h => h) (Or.inl ⟨by rfl, ?_⟩) hHeld ?_ ?_
                rotate_left
                · rintro w' ⟨s0, s1, s2, s3⟩
                  go_simp
                  with_reducible rfl
                rotate_left
                · simp only [Act.put, List.setIfInBounds_toArray, List.set_cons_zero, List.set_cons_succ, i64_w, i32_w]
                  rfl
                refine one_ (i := 7) (N := some 35) #[true, true, true, true, true, true, true, true, false, false, false, false, false] rfl rfl (one_of HT_.out (by kernel_rfl)) (by decide) (fun K hK => ?_)
                refine goes_ Tryz.func61 (by kernel_rfl) rfl #[.string a0, .agg #[.int .i64 ((rd_T25 l1 0).f0), .int .i64 ((rd_T25 l1 0).f1)], .agg #[.int .i64 ((rd_T25 l1 1).f0), .int .i64 ((rd_T25 l1 1).f1)]] (by rfl) rfl rfl ma ?_
                with_reducible refine (q8_two.calls kj4 a0 ((rd_T25 l1 0).f0) ((rd_T25 l1 0).f1) ((rd_T25 l1 1).f0) ((rd_T25 l1 1).f1) t396 t397 false _ A20.out).mono ?_
                rintro e w30 ⟨rfl, hb⟩
                refine ⟨_, rfl, ?_⟩
                have n0_ := bkb BK387 hb
                have n1_ := bkb BK389 hb
                have n2_ := bsq w hb
                clear BK387 BK389 HB
                have BK387 := n0_
                have BK389 := n1_
                have HB := n2_
                clear n0_ n1_ n2_
                (try clear hb)
                (try clear hb2)
                (try clear hk)
                (try clear hi)
                refine hK.out _ _ ⟨((HB.out.cell (World.block_lt_of_cell? w _ hw394_0)).trans hw394_0), ((HB.out.cell (World.block_lt_of_cell? w _ hw394_1)).trans hw394_1), ((HB.out.cell (World.block_lt_of_cell? w _ hw395_0)).trans hw395_0), ((HB.out.cell (World.block_lt_of_cell? w _ hw395_1)).trans hw395_1)⟩ (fun hHeld => ?_)
                clear hK K
                refine norm_ (a' := ?_) ?_ ?_
                rotate_left
                · show Act.put _ (some 35) _ = _
                  simp only [Act.put, List.setIfInBounds_toArray, List.set_cons_zero, List.set_cons_succ, i64_w, i32_w]
                  rfl
                refine pure_ (i := 8) (N := some 27) (v := ?_) (a' := ?_) #[true, true, true, true, true, true, true, true, true, false, false, false, false] rfl rfl (any_of HT_.out (by kernel_rfl)) (fun _ _ _ h => h) (Or.inl ⟨by rfl, ?_⟩) ?_ ?_
                rotate_left
                · intro w'
                  go_simp
                  with_reducible rfl
                rotate_left
                · simp only [Act.put, List.setIfInBounds_toArray, List.set_cons_zero, List.set_cons_succ, i64_w, i32_w]
                  rfl
                refine pure_ (i := 9) (N := some 36) (v := ?_) (a' := ?_) #[true, true, true, true, true, true, true, true, true, true, false, false, false] rfl rfl (any_of HT_.out (by kernel_rfl)) (fun _ _ _ h => h) (Or.inl ⟨by rfl, ?_⟩) ?_ ?_
                rotate_left
                · intro w'
                  go_simp
                  with_reducible rfl
                rotate_left
                · simp only [Act.put, List.setIfInBounds_toArray, List.set_cons_zero, List.set_cons_succ, i64_w, i32_w]
                  rfl
                refine pure_ (i := 10) (N := some 37) (v := ?_) (a' := ?_) #[true, true, true, true, true, true, true, true, true, true, true, false, false] rfl rfl (any_of HT_.out (by kernel_rfl)) (fun _ _ _ h => h) (Or.inl ⟨by rfl, ?_⟩) ?_ ?_
                rotate_left
                · intro w'
                  go_simp
                  with_reducible rfl
                rotate_left
                · simp only [Act.put, List.setIfInBounds_toArray, List.set_cons_zero, List.set_cons_succ, i64_w, i32_w]
                  rfl
                refine one_ (i := 11) (N := none) #[true, true, true, true, true, true, true, true, true, true, true, true, false] rfl rfl (one_of HT_.out (by kernel_rfl)) (by decide) (fun K hK => ?_)
                have hs31 : w30.cell? ⟨gb389, 0, none⟩ = some (.int .i64 x390000_4) := (blk_cell BK389.out 0).trans rfl
                have hfs31 := blk_frozen BK389.out 0
                have hns31_0 := NB387_389.out
                have hms31_0 := NB389_387.out
                have hs32 : w30.cell? ⟨gb389, 1, none⟩ = some (.int .i64 x390001_4) := (blk_cell BK389.out 1).trans rfl
                have hfs32 := blk_frozen BK389.out 1
                have hns32_0 := NB387_389.out
                have hms32_0 := NB389_387.out
                refine skip_ (w1 := ?_) (by rfl) rfl ?_ ?_
                rotate_left
                · go_simp
                  rfl
                refine hK.out _ _ ⟨((cell_far (p := ⟨gb389, _, none⟩) (by first | exact Nat.ne_of_lt (Nat.lt_of_lt_of_le (by have := World.block_lt_of_cell? _ _ hw394_0; first | rwa [add_block] at this | exact this) GW389.out) | (rw [add_block]; exact Nat.ne_of_lt (Nat.lt_of_lt_of_le (by have := World.block_lt_of_cell? _ _ hw394_0; first | rwa [add_block] at this | exact this) GW389.out)) | (show (Addr.add _ _).block ≠ _; rw [add_block]; exact Nat.ne_of_lt (Nat.lt_of_lt_of_le (by have := World.block_lt_of_cell? _ _ hw394_0; first | rwa [add_block] at this | exact this) GW389.out)) | (dsimp only; exact Nat.ne_of_lt (Nat.lt_of_lt_of_le (by have := World.block_lt_of_cell? _ _ hw394_0; first | rwa [add_block] at this | exact this) GW389.out))) _).trans (((cell_far (p := ⟨gb389, _, none⟩) (by first | exact Nat.ne_of_lt (Nat.lt_of_lt_of_le (by have := World.block_lt_of_cell? _ _ hw394_0; first | rwa [add_block] at this | exact this) GW389.out) | (rw [add_block]; exact Nat.ne_of_lt (Nat.lt_of_lt_of_le (by have := World.block_lt_of_cell? _ _ hw394_0; first | rwa [add_block] at this | exact this) GW389.out)) | (show (Addr.add _ _).block ≠ _; rw [add_block]; exact Nat.ne_of_lt (Nat.lt_of_lt_of_le (by have := World.block_lt_of_cell? _ _ hw394_0; first | rwa [add_block] at this | exact this) GW389.out)) | (dsimp only; exact Nat.ne_of_lt (Nat.lt_of_lt_of_le (by have := World.block_lt_of_cell? _ _ hw394_0; first | rwa [add_block] at this | exact this) GW389.out))) _).trans (hHeld.1)))), ((cell_far (p := ⟨gb389, _, none⟩) (by first | exact Nat.ne_of_lt (Nat.lt_of_lt_of_le (by have := World.block_lt_of_cell? _ _ hw394_1; first | rwa [add_block] at this | exact this) GW389.out) | (rw [add_block]; exact Nat.ne_of_lt (Nat.lt_of_lt_of_le (by have := World.block_lt_of_cell? _ _ hw394_1; first | rwa [add_block] at this | exact this) GW389.out)) | (show (Addr.add _ _).block ≠ _; rw [add_block]; exact Nat.ne_of_lt (Nat.lt_of_lt_of_le (by have := World.block_lt_of_cell? _ _ hw394_1; first | rwa [add_block] at this | exact this) GW389.out)) | (dsimp only; exact Nat.ne_of_lt (Nat.lt_of_lt_of_le (by have := World.block_lt_of_cell? _ _ hw394_1; first | rwa [add_block] at this | exact this) GW389.out))) _).trans (((cell_far (p := ⟨gb389, _, none⟩) (by first | exact Nat.ne_of_lt (Nat.lt_of_lt_of_le (by have := World.block_lt_of_cell? _ _ hw394_1; first | rwa [add_block] at this | exact this) GW389.out) | (rw [add_block]; exact Nat.ne_of_lt (Nat.lt_of_lt_of_le (by have := World.block_lt_of_cell? _ _ hw394_1; first | rwa [add_block] at this | exact this) GW389.out)) | (show (Addr.add _ _).block ≠ _; rw [add_block]; exact Nat.ne_of_lt (Nat.lt_of_lt_of_le (by have := World.block_lt_of_cell? _ _ hw394_1; first | rwa [add_block] at this | exact this) GW389.out)) | (dsimp only; exact Nat.ne_of_lt (Nat.lt_of_lt_of_le (by have := World.block_lt_of_cell? _ _ hw394_1; first | rwa [add_block] at this | exact this) GW389.out))) _).trans (hHeld.2.1)))), ((cell_far (p := ⟨gb389, _, none⟩) (by first | exact Nat.ne_of_lt (Nat.lt_of_lt_of_le (by have := World.block_lt_of_cell? _ _ hw395_0; first | rwa [add_block] at this | exact this) GW389.out) | (rw [add_block]; exact Nat.ne_of_lt (Nat.lt_of_lt_of_le (by have := World.block_lt_of_cell? _ _ hw395_0; first | rwa [add_block] at this | exact this) GW389.out)) | (show (Addr.add _ _).block ≠ _; rw [add_block]; exact Nat.ne_of_lt (Nat.lt_of_lt_of_le (by have := World.block_lt_of_cell? _ _ hw395_0; first | rwa [add_block] at this | exact this) GW389.out)) | (dsimp only; exact Nat.ne_of_lt (Nat.lt_of_lt_of_le (by have := World.block_lt_of_cell? _ _ hw395_0; first | rwa [add_block] at this | exact this) GW389.out))) _).trans (((cell_far (p := ⟨gb389, _, none⟩) (by first | exact Nat.ne_of_lt (Nat.lt_of_lt_of_le (by have := World.block_lt_of_cell? _ _ hw395_0; first | rwa [add_block] at this | exact this) GW389.out) | (rw [add_block]; exact Nat.ne_of_lt (Nat.lt_of_lt_of_le (by have := World.block_lt_of_cell? _ _ hw395_0; first | rwa [add_block] at this | exact this) GW389.out)) | (show (Addr.add _ _).block ≠ _; rw [add_block]; exact Nat.ne_of_lt (Nat.lt_of_lt_of_le (by have := World.block_lt_of_cell? _ _ hw395_0; first | rwa [add_block] at this | exact this) GW389.out)) | (dsimp only; exact Nat.ne_of_lt (Nat.lt_of_lt_of_le (by have := World.block_lt_of_cell? _ _ hw395_0; first | rwa [add_block] at this | exact this) GW389.out))) _).trans (hHeld.2.2.1)))), ((cell_far (p := ⟨gb389, _, none⟩) (by first | exact Nat.ne_of_lt (Nat.lt_of_lt_of_le (by have := World.block_lt_of_cell? _ _ hw395_1; first | rwa [add_block] at this | exact this) GW389.out) | (rw [add_block]; exact Nat.ne_of_lt (Nat.lt_of_lt_of_le (by have := World.block_lt_of_cell? _ _ hw395_1; first | rwa [add_block] at this | exact this) GW389.out)) | (show (Addr.add _ _).block ≠ _; rw [add_block]; exact Nat.ne_of_lt (Nat.lt_of_lt_of_le (by have := World.block_lt_of_cell? _ _ hw395_1; first | rwa [add_block] at this | exact this) GW389.out)) | (dsimp only; exact Nat.ne_of_lt (Nat.lt_of_lt_of_le (by have := World.block_lt_of_cell? _ _ hw395_1; first | rwa [add_block] at this | exact this) GW389.out))) _).trans (((cell_far (p := ⟨gb389, _, none⟩) (by first | exact Nat.ne_of_lt (Nat.lt_of_lt_of_le (by have := World.block_lt_of_cell? _ _ hw395_1; first | rwa [add_block] at this | exact this) GW389.out) | (rw [add_block]; exact Nat.ne_of_lt (Nat.lt_of_lt_of_le (by have := World.block_lt_of_cell? _ _ hw395_1; first | rwa [add_block] at this | exact this) GW389.out)) | (show (Addr.add _ _).block ≠ _; rw [add_block]; exact Nat.ne_of_lt (Nat.lt_of_lt_of_le (by have := World.block_lt_of_cell? _ _ hw395_1; first | rwa [add_block] at this | exact this) GW389.out)) | (dsimp only; exact Nat.ne_of_lt (Nat.lt_of_lt_of_le (by have := World.block_lt_of_cell? _ _ hw395_1; first | rwa [add_block] at this | exact this) GW389.out))) _).trans (hHeld.2.2.2))))⟩ (fun hHeld => ?_)
                clear hK K
                refine pure_ (i := 12) (N := some 7) (v := ?_) (a' := ?_) #[true, true, true, true, true, true, true, true, true, true, true, true, true] rfl rfl (any_of HT_.out (by kernel_rfl)) (fun _ _ _ h => h) (Or.inl ⟨by rfl, ?_⟩) ?_ ?_
                rotate_left
                · intro w'
                  go_simp
                  with_reducible rfl
                rotate_left
                · simp only [Act.put, List.setIfInBounds_toArray, List.set_cons_zero, List.set_cons_succ, i64_w, i32_w]
                  rfl
                refine done_ (done_of HT_.out (by kernel_rfl)) ?_
                have hnb33 := NB387_389.out
                have hnc33 := NB389_387.out
                obtain ⟨hcz34_0, hcz34_1, hfz34_0, hfz34_1⟩ := bz BK387
                try go_wp2
                refine bodyPost_ret (results_ct rfl _ _ gb387 25 #[.int .i64 0, .int .i64 0] (0, 0) _ rfl (by (repeat refine dw ?_); refine blk_put (cs := #[.int .i64 0, .int .i64 0]) ?_ 1 _ rfl; (repeat refine dw ?_); refine blk_put (cs := #[.int .i64 0, .int .i64 0]) ?_ 0 _ rfl; (repeat refine dw ?_); refine blk_far ?_ NB387_389.out _; (repeat refine dw ?_); refine blk_far ?_ NB387_389.out _; (repeat refine dw ?_); exact BK387.out) Tryz.underlying25 rfl (by kernel_rfl)) rfl ?_
                exact ⟨fe, bbl⟩
            · rw [if_neg c19] at H
              exact absurd H (by simp)
          · rw [if_neg c18] at H
            exact absurd H (by simp)
        · rw [if_neg c17] at H
          have c17b0 : ((l1.length : Int) == 2) = false := beq_eq_false_iff_ne.mpr c17
          have c17b1 : ((l1.length : Int) != 2) = true := bne_iff_ne.mpr c17
          by_cases c35 : x7_4 = true
          · subst c35
            replace H := iT H
            simp only [Option.some.injEq, Prod.mk.injEq] at H
            obtain ⟨rfl, rfl, rfl⟩ := H
            have hnb36 := NB389_387.out
            have hnc36 := NB387_389.out
            obtain ⟨hcz37_0, hcz37_1, hfz37_0, hfz37_1⟩ := bz BK389
            obtain ⟨hcz38_0, hcz38_1, hfz38_0, hfz38_1⟩ := bz BK387
            go_wp2
            refine bodyPost_ret (results_ct rfl _ _ gb387 25 #[.int .i64 x390000_4, .int .i64 x390001_4] (0, 0) _ rfl (by (repeat refine dw ?_); refine blk_put (cs := #[.int .i64 x390000_4, .int .i64 0]) ?_ 1 _ rfl; (repeat refine dw ?_); refine blk_put (cs := #[.int .i64 0, .int .i64 0]) ?_ 0 _ rfl; (repeat refine dw ?_); exact BK387.out) Tryz.underlying25 rfl (by kernel_rfl)) rfl ?_
            exact ⟨fe, bbl⟩
          · replace c35 := Bool.eq_false_iff.mpr c35
            subst c35
            replace H := iF H
            simp only [Option.some.injEq, Prod.mk.injEq] at H
            obtain ⟨rfl, rfl, rfl⟩ := H
            have hnb39 := NB387_389.out
            have hnc39 := NB389_387.out
            obtain ⟨hcz40_0, hcz40_1, hfz40_0, hfz40_1⟩ := bz BK387
            go_wp2
            refine bodyPost_ret (results_ct rfl _ _ gb387 25 #[.int .i64 0, .int .i64 0] (0, 0) _ rfl (by (repeat refine dw ?_); refine blk_put (cs := #[.int .i64 0, .int .i64 0]) ?_ 1 _ rfl; (repeat refine dw ?_); refine blk_put (cs := #[.int .i64 0, .int .i64 0]) ?_ 0 _ rfl; (repeat refine dw ?_); exact BK387.out) Tryz.underlying25 rfl (by kernel_rfl)) rfl ?_
            exact ⟨fe, bbl⟩
  · rw [if_neg c4] at H
    have c4b0 := beq_eq_false_iff_ne.mpr c4
    have c4b1 := bne_iff_ne.mpr c4
    simp only [Option.some.injEq, Prod.mk.injEq] at H
    obtain ⟨rfl, rfl, rfl⟩ := H
    go_enter Tryz.func17, Tryz.ntmps17
    go_wp2_with (first | ((with_reducible refine gate_dst (N := 4) rfl ?_); refine bxe (N := 4) (cs := #[.int .i64 0, .int .i64 0]) (t := 25) ?_; intro gb387 hg w41 hbox hb; have BK387 := Sd.mk hbox; have GW387 := bge w hg; have GE387 := bge w hg; replace HB := bsq w hb; clear hb hbox hg) | ((with_reducible refine gate_callee (f := 59) rfl ?_); refine goesL_ (some 9) rfl rfl Tryz.func59 (by kernel_rfl) rfl #[.slice A1 l1.length c1] rfl ma ?_; (with_reducible refine (r8_Check.calls k _ _ l1 t388 _ ?side1 ?side2 A3.out).mono ?_); (case side1 => repeat (first | exact (Kd.C_below HR1.out HB.out) | (with_reducible refine Kd.C_alloc ?_ _) | (with_reducible refine Kd.C_drewN ?_ _) | (with_reducible refine Kd.C_drew ?_))); (case side2 => exact HC1.out); rintro e w42 ⟨rfl, hb⟩; refine ⟨_, rfl, ?_⟩; replace BK387 := bkb BK387 hb; replace HB := bsq w hb; (try clear hb); have hcz43_0 := bz0 BK387; have hcz43_1 := bz1 BK387; have hfz43_0 := blk_frozen BK387.out 0; have hfz43_1 := blk_frozen BK387.out 1))
    refine bodyPost_ret (results_ct rfl _ _ gb387 25 #[.int .i64 0, .int .i64 0] (0, 0) _ rfl (by (repeat refine dw ?_); refine blk_put (cs := #[.int .i64 0, .int .i64 0]) ?_ 1 _ rfl; (repeat refine dw ?_); refine blk_put (cs := #[.int .i64 0, .int .i64 0]) ?_ 0 _ rfl; (repeat refine dw ?_); exact BK387.out) Tryz.underlying25 rfl (by kernel_rfl)) rfl ?_
    exact ⟨fe, bbl⟩
mutual
def lb_nameOK.l0 : Nat → ByteArray → Int → Int → Option (Bool)
 | 0, _, _, _ => none
 | k + 1, x0, x6, x7 => if x7 < x6 then (if 0 ≤ x7 then (if x7 < (x0.size : Int) then (if (bt x0 x7) ≥ 97 then (lb_nameOK.j1 k x0 x7 (bt x0 x7) x6 x7 (decide ((bt x0 x7) ≤ 122))) else (lb_nameOK.j1 k x0 x7 (bt x0 x7) x6 x7 false)) else (none)) else (none)) else (if x0.toList = ([] : List UInt8) then (some false) else (some (decide ((x0.size : Int) ≤ 64))))
def lb_nameOK.j1 : Nat → ByteArray → Int → Int → Int → Int → Bool → Option (Bool)
 | 0, _, _, _, _, _, _ => none
 | k + 1, x0, x3, x4, x6, x7, x13 => if x13 = true then (lb_nameOK.l0 k x0 x6 (wrap64 (x7 + 1))) else (if x4 ≥ 65 then (lb_nameOK.j2 k x0 x3 x4 x6 x7 (decide (x4 ≤ 90))) else (lb_nameOK.j2 k x0 x3 x4 x6 x7 false))
def lb_nameOK.j2 : Nat → ByteArray → Int → Int → Int → Int → Bool → Option (Bool)
 | 0, _, _, _, _, _, _ => none
 | k + 1, x0, x3, x4, x6, x7, x13 => if x13 = true then (lb_nameOK.l0 k x0 x6 (wrap64 (x7 + 1))) else (if x4 = 95 then (lb_nameOK.l0 k x0 x6 (wrap64 (x7 + 1))) else (if x3 > 0 then (if x4 ≥ 48 then (if x4 ≤ 57 then (lb_nameOK.l0 k x0 x6 (wrap64 (x7 + 1))) else (some false)) else (some false)) else (some false)))
end
def lb_nameOK.f (k : Nat) (a0 : ByteArray) : Option (Bool) := lb_nameOK.l0 k a0 (a0.size : Int) 0
theorem lb_nameOK.calls (k : Nat) (a0 : ByteArray) (r : Bool) (w : World) (h : lb_nameOK.f k a0 = some r) :
  Calls Tryz.prog 143 #[.string a0] w fun e w' => e = .returned (.bool r) ∧ Drawn0 w w' := by
 have H : (lb_nameOK.l0 k a0 (a0.size : Int) 0) = some r := h
 clear h
 have H' := Sd.mk H
 clear H
 go_enter Tryz.func143, Tryz.ntmps143
 go_wp2
 go_loopg [7] k (fun kq v7 w' => ∃ (x7_1 : Int), v7 = .int .i64 x7_1 ∧ Sd (lb_nameOK.l0 kq a0 (a0.size : Int) x7_1 = some r) ∧ Sd (kq ≤ k) ∧ Drawn0 w w')
 case atStart => exact ⟨(0), ae, H', ⟨Nat.le_refl _⟩, by repeat (first | exact Drawn0.refl _ | apply Drawn0.step)⟩
 case round =>
  clear H'
  obtain ⟨x7_1, rfl, HA, HK1, ⟨m1, rfl⟩⟩ := hrel
  cases gk with
  | zero => exact absurd HA.out (by simp [lb_nameOK.l0])
  | succ k1 =>
   have H := HA.out
   clear HA
   simp only [lb_nameOK.l0] at H
   by_cases c2 : x7_1 < (a0.size : Int)
   ·rw [if_pos c2] at H
    have c2b0 : decide (x7_1 < (a0.size : Int)) = true := decide_eq_true c2
    clear c2
    by_cases c3 : 0 ≤ x7_1
    ·rw [if_pos c3] at H
     have c3b0 : decide (0 ≤ x7_1) = true := decide_eq_true c3
     clear c3
     by_cases c4 : x7_1 < (a0.size : Int)
     ·rw [if_pos c4] at H
      have c4b0 : decide (x7_1 < (a0.size : Int)) = true := decide_eq_true c4
      clear c4
      have HC6 := Sd.mk H
      clear H
      have p5 : 0 ≤ (x7_1 : Int) := ode
      have q5 : x7_1 < (a0.size : Int) := ode
      have hx5 := bt_at a0 x7_1
      replace p5 := eq_true p5
      replace q5 := eq_true q5
      go_upto_region 6 with (fail)
      go_cut [13] (fun v13 wc => ∃ (kq : Nat) (x13_5 : Bool), v13 = .bool x13_5 ∧ Sd (lb_nameOK.j1 kq a0 x7_1 (bt a0 x7_1) (a0.size : Int) x7_1 x13_5 = some r) ∧ Sd (kq ≤ k1) ∧ Drawn0 w wc)
      case first =>
       have H := HC6.out
       clear HC6
       by_cases c7 : (bt a0 x7_1) ≥ 97
       ·rw [if_pos c7] at H
        have c7b0 : decide (97 ≤ (bt a0 x7_1)) = true := decide_eq_true c7
        clear c7
        (first | rw [c7b0] | (simp only [i64_w, i32_w]; rw [c7b0]) | skip)
        have H' := Sd.mk H
        clear H
        go_wp2
        go_meet
        case rel => exact ⟨_, (decide ((bt a0 x7_1) ≤ 122)), ae, H', ⟨by have := HK1.out; first | omega | exact Nat.le_refl _⟩, by repeat (first | exact Drawn0.refl _ | apply Drawn0.step)⟩
       ·rw [if_neg c7] at H
        have c7b0 : decide (97 ≤ (bt a0 x7_1)) = false := decide_eq_false c7
        clear c7
        (first | rw [c7b0] | (simp only [i64_w, i32_w]; rw [c7b0]) | skip)
        have H' := Sd.mk H
        clear H
        go_wp2
        go_meet
        case rel => exact ⟨_, (false), ae, H', ⟨by have := HK1.out; first | omega | exact Nat.le_refl _⟩, by repeat (first | exact Drawn0.refl _ | apply Drawn0.step)⟩
      case rest =>
       clear HC6
       obtain ⟨kq, x13_5, rfl, HA, HJ5, ⟨mc5, rfl⟩⟩ := hcut
       cases kq with
       | zero => exact absurd HA.out (by simp [lb_nameOK.j1])
       | succ kj5 =>
        have H := HA.out
        clear HA
        simp only [lb_nameOK.j1] at H
        by_cases c8 : x13_5 = true
        ·subst c8
         replace H := iT H
         have H' := Sd.mk H
         clear H
         go_wp2
         go_roundg kj5
         case measure => have := HK1.out; have := HJ5.out; omega
         case rel => exact ⟨(wrap64 (x7_1 + 1)), ae, H', ⟨by have := HK1.out; have := HJ5.out; omega⟩, by repeat (first | exact Drawn0.refl _ | apply Drawn0.step)⟩
        ·replace c8 := Bool.eq_false_iff.mpr c8
         subst c8
         replace H := iF H
         have HC9 := Sd.mk H
         clear H
         go_upto_region 7 with (fail)
         go_cut [13] (fun v13 wc => ∃ (kq : Nat) (x13_8 : Bool), v13 = .bool x13_8 ∧ Sd (lb_nameOK.j2 kq a0 x7_1 (bt a0 x7_1) (a0.size : Int) x7_1 x13_8 = some r) ∧ Sd (kq ≤ kj5) ∧ Drawn0 w wc)
         case first =>
          have H := HC9.out
          clear HC9
          by_cases c10 : (bt a0 x7_1) ≥ 65
          ·rw [if_pos c10] at H
           have c10b0 : decide (65 ≤ (bt a0 x7_1)) = true := decide_eq_true c10
           clear c10
           (first | rw [c10b0] | (simp only [i64_w, i32_w]; rw [c10b0]) | skip)
           have H' := Sd.mk H
           clear H
           go_wp2
           go_meet
           case rel => exact ⟨_, (decide ((bt a0 x7_1) ≤ 90)), ae, H', ⟨by have := HK1.out; have := HJ5.out; first | omega | exact Nat.le_refl _⟩, by repeat (first | exact Drawn0.refl _ | apply Drawn0.step)⟩
          ·rw [if_neg c10] at H
           have c10b0 : decide (65 ≤ (bt a0 x7_1)) = false := decide_eq_false c10
           clear c10
           (first | rw [c10b0] | (simp only [i64_w, i32_w]; rw [c10b0]) | skip)
           have H' := Sd.mk H
           clear H
           go_wp2
           go_meet
           case rel => exact ⟨_, (false), ae, H', ⟨by have := HK1.out; have := HJ5.out; first | omega | exact Nat.le_refl _⟩, by repeat (first | exact Drawn0.refl _ | apply Drawn0.step)⟩
         case rest =>
          clear HC9
          obtain ⟨kq, x13_8, rfl, HA, HJ8, ⟨mc8, rfl⟩⟩ := hcut
          cases kq with
          | zero => exact absurd HA.out (by simp [lb_nameOK.j2])
          | succ kj8 =>
           have H := HA.out
           clear HA
           simp only [lb_nameOK.j2] at H
           by_cases c11 : x13_8 = true
           ·subst c11
            replace H := iT H
            have H' := Sd.mk H
            clear H
            go_wp2
            go_roundg kj8
            case measure => have := HK1.out; have := HJ5.out; have := HJ8.out; omega
            case rel => exact ⟨(wrap64 (x7_1 + 1)), ae, H', ⟨by have := HK1.out; have := HJ5.out; have := HJ8.out; omega⟩, by repeat (first | exact Drawn0.refl _ | apply Drawn0.step)⟩
           ·replace c11 := Bool.eq_false_iff.mpr c11
            subst c11
            replace H := iF H
            by_cases c12 : (bt a0 x7_1) = 95
            ·rw [if_pos c12] at H
             have c12b0 : ((bt a0 x7_1) == 95) = true := beq_iff_eq.mpr c12
             have c12b1 : ((bt a0 x7_1) != 95) = false := bne_eq_false_iff_eq.mpr c12
             clear c12
             have H' := Sd.mk H
             clear H
             go_wp2
             go_roundg kj8
             case measure => have := HK1.out; have := HJ5.out; have := HJ8.out; omega
             case rel => exact ⟨(wrap64 (x7_1 + 1)), ae, H', ⟨by have := HK1.out; have := HJ5.out; have := HJ8.out; omega⟩, by repeat (first | exact Drawn0.refl _ | apply Drawn0.step)⟩
            ·rw [if_neg c12] at H
             have c12b0 : ((bt a0 x7_1) == 95) = false := beq_eq_false_iff_ne.mpr c12
             have c12b1 : ((bt a0 x7_1) != 95) = true := bne_iff_ne.mpr c12
             by_cases c13 : x7_1 > 0
             ·rw [if_pos c13] at H
              have c13b0 : decide (0 < x7_1) = true := decide_eq_true c13
              clear c13
              by_cases c14 : (bt a0 x7_1) ≥ 48
              ·rw [if_pos c14] at H
               have c14b0 : decide (48 ≤ (bt a0 x7_1)) = true := decide_eq_true c14
               clear c14
               by_cases c15 : (bt a0 x7_1) ≤ 57
               ·rw [if_pos c15] at H
                have c15b0 : decide ((bt a0 x7_1) ≤ 57) = true := decide_eq_true c15
                clear c15
                have H' := Sd.mk H
                clear H
                go_wp2
                go_roundg kj8
                case measure => have := HK1.out; have := HJ5.out; have := HJ8.out; omega
                case rel => exact ⟨(wrap64 (x7_1 + 1)), ae, H', ⟨by have := HK1.out; have := HJ5.out; have := HJ8.out; omega⟩, by repeat (first | exact Drawn0.refl _ | apply Drawn0.step)⟩
               ·rw [if_neg c15] at H
                have c15b0 : decide ((bt a0 x7_1) ≤ 57) = false := decide_eq_false c15
                clear c15
                obtain rfl := Option.some.inj H
                go_wp2
                go_ret
                exact ⟨ae, by repeat (first | exact Drawn0.refl _ | apply Drawn0.step)⟩
              ·rw [if_neg c14] at H
               have c14b0 : decide (48 ≤ (bt a0 x7_1)) = false := decide_eq_false c14
               clear c14
               obtain rfl := Option.some.inj H
               go_wp2
               go_ret
               exact ⟨ae, by repeat (first | exact Drawn0.refl _ | apply Drawn0.step)⟩
             ·rw [if_neg c13] at H
              have c13b0 : decide (0 < x7_1) = false := decide_eq_false c13
              clear c13
              obtain rfl := Option.some.inj H
              go_wp2
              go_ret
              exact ⟨ae, by repeat (first | exact Drawn0.refl _ | apply Drawn0.step)⟩
     ·rw [if_neg c4] at H
      exact absurd H (by simp)
    ·rw [if_neg c3] at H
     exact absurd H (by simp)
   ·rw [if_neg c2] at H
    have c2b0 : decide (x7_1 < (a0.size : Int)) = false := decide_eq_false c2
    clear c2
    by_cases c16 : a0.toList = ([] : List UInt8)
    ·rw [if_pos c16] at H
     have c16b0 : (a0.toList == ([] : List UInt8)) = true := beq_iff_eq.mpr c16
     have c16b1 : (a0.toList != ([] : List UInt8)) = false := bne_eq_false_iff_eq.mpr c16
     clear c16
     obtain rfl := Option.some.inj H
     go_wp2
     go_ret
     exact ⟨ae, by repeat (first | exact Drawn0.refl _ | apply Drawn0.step)⟩
    ·rw [if_neg c16] at H
     have c16b0 : (a0.toList == ([] : List UInt8)) = false := beq_eq_false_iff_ne.mpr c16
     have c16b1 : (a0.toList != ([] : List UInt8)) = true := bne_iff_ne.mpr c16
     obtain rfl := Option.some.inj H
     go_wp2
     go_ret
     exact ⟨ae, by repeat (first | exact Drawn0.refl _ | apply Drawn0.step)⟩
def s_odd.f (a0_0 : Int) (a0_1 : Int) : Option (Bool) := if a0_0 = 2 then (some true) else (some (a0_0 == 3))
theorem s_odd.calls (a0_0 : Int) (a0_1 : Int) (r : Bool) (w : World) (h : s_odd.f a0_0 a0_1 = some r) :
  Calls Tryz.prog 37 #[.agg #[.int .i64 a0_0, .int .i64 a0_1]] w fun e w' => e = .returned (.bool r) ∧ Below w.heap.size w w' := by
 have hu25 := Tryz.underlying25
 have HB := Sd.mk (Below.refl w.heap.size w)
 have H : (if a0_0 = 2 then (some true) else (some (a0_0 == 3))) = some r := h
 clear h
 by_cases c2 : a0_0 = 2
 ·rw [if_pos c2] at H
  have c2b0 := beq_iff_eq.mpr c2
  have c2b1 := bne_eq_false_iff_eq.mpr c2
  clear c2
  obtain rfl := Option.some.inj H
  go_enter Tryz.func37, Tryz.ntmps37
  go_wp2_with (first | ((with_reducible refine gate_dst (N := 1) rfl ?_); refine bxe (N := 1) (cs := #[.int .i64 a0_0, .int .i64 a0_1]) (t := 25) ?_; intro gb490 hg w3 hbox hb; have BK490 := Sd.mk hbox; have GW490 := bge w hg; have GE490 := bge w hg; replace HB := bsq w hb; clear hb hbox hg; have hcz4_0 := bz0 BK490; have hcz4_1 := bz1 BK490; have hfz4_0 := blk_frozen BK490.out 0; have hfz4_1 := blk_frozen BK490.out 1))
  go_ret
  exact ⟨fe, bbl⟩
 ·rw [if_neg c2] at H
  have c2b0 := beq_eq_false_iff_ne.mpr c2
  have c2b1 := bne_iff_ne.mpr c2
  obtain rfl := Option.some.inj H
  go_enter Tryz.func37, Tryz.ntmps37
  go_wp2_with (first | ((with_reducible refine gate_dst (N := 1) rfl ?_); refine bxe (N := 1) (cs := #[.int .i64 a0_0, .int .i64 a0_1]) (t := 25) ?_; intro gb490 hg w5 hbox hb; have BK490 := Sd.mk hbox; have GW490 := bge w hg; have GE490 := bge w hg; replace HB := bsq w hb; clear hb hbox hg; have hcz6_0 := bz0 BK490; have hcz6_1 := bz1 BK490; have hfz6_0 := blk_frozen BK490.out 0; have hfz6_1 := blk_frozen BK490.out 1))
  go_ret
  exact ⟨fe, bbl⟩
def s_many.f (l0 : List (S39)) : Option (Int × Int) := (v_Num.f (wrap64 (1000 * (l0.length : Int)))).bind fun bt492 => (some (bt492.1, bt492.2))
theorem s_many.calls (A0 : Option Addr) (c0 : Nat) (l0 : List (S39)) (r1 : Int) (r2 : Int) (w : World) (hr0 : Kd.C k39 w A0 l0.length l0) (hc0 : l0.length ≤ c0) (h : s_many.f l0 = some (r1, r2)) :
  Calls Tryz.prog 38 #[.slice A0 l0.length c0] w fun e w' => e = .returned (.agg #[.int .i64 r1, .int .i64 r2]) ∧ Below w.heap.size w w' := by
 have hu25 := Tryz.underlying25
 have HR0 := Sd.mk hr0
 have HC0 := Sd.mk hc0
 clear hr0 hc0
 have HB := Sd.mk (Below.refl w.heap.size w)
 have H : ((v_Num.f (wrap64 (1000 * (l0.length : Int)))).bind fun bt492 => (some (bt492.1, bt492.2))) = some (r1, r2) := h
 clear h
 obtain ⟨⟨t492, t493⟩, A2, H⟩ := bnd H
 replace H : (some (t492, t493)) = some (r1, r2) := H
 simp only [Option.some.injEq, Prod.mk.injEq] at H
 obtain ⟨rfl, rfl⟩ := H
 go_enter Tryz.func38, Tryz.ntmps38
 go_wp2_with (first | ((with_reducible refine gate_dst (N := 2) rfl ?_); refine bxe (N := 2) (cs := #[.int .i64 0, .int .i64 0]) (t := 25) ?_; intro gb491 hg w3 hbox hb; have BK491 := Sd.mk hbox; have GW491 := bge w hg; have GE491 := bge w hg; replace HB := bsq w hb; clear hb hbox hg) | ((with_reducible refine gate_callee (f := 76) rfl ?_); refine goesL_ (some 6) rfl rfl Tryz.func76 (by kernel_rfl) rfl #[.int .i64 (wrap64 (1000 * (l0.length : Int)))] rfl ma ?_; (with_reducible refine (v_Num.calls (wrap64 (1000 * (l0.length : Int))) t492 t493 _ A2.out).mono ?_); rintro e w4 ⟨rfl, hb⟩; refine ⟨_, rfl, ?_⟩; replace BK491 := bkb BK491 hb; replace HB := bsq w hb; (try clear hb); have hcz5_0 := bz0 BK491; have hcz5_1 := bz1 BK491; have hfz5_0 := blk_frozen BK491.out 0; have hfz5_1 := blk_frozen BK491.out 1))
 refine bodyPost_ret (results_cell_row rfl _ _ gb491 25 #[.int .i64 t492, .int .i64 t493] (0, 0) _ rfl (by (repeat refine dw ?_); refine blk_put (cs := #[.int .i64 t492, .int .i64 0]) ?_ 1 _ rfl; (repeat refine dw ?_); refine blk_put (cs := #[.int .i64 0, .int .i64 0]) ?_ 0 _ rfl; (repeat refine dw ?_); exact BK491.out) Tryz.underlying25 rfl (by kernel_rfl)) rfl ?_
 exact ⟨fe, bbl⟩
def l10_num.f (a0 : Int) : Option (Int) := some a0
theorem l10_num.calls (a0 : Int) (r : Int) (w : World) (h : l10_num.f a0 = some r) :
  Calls Tryz.prog 12 #[.int .i64 a0] w fun e w' => e = .returned (.int .i64 r) ∧ Drawn0 w w' := by
 have H : (some a0) = some r := h
 clear h
 obtain rfl := Option.some.inj H
 go_enter Tryz.func12, Tryz.ntmps12
 go_wp2
 go_ret
 exact ⟨ae, by repeat (first | exact Drawn0.refl _ | apply Drawn0.step)⟩
def cmp_isNaN_int64.f (a0 : Int) : Option (Bool) := some (a0 != a0)
theorem cmp_isNaN_int64.calls (a0 : Int) (r : Bool) (w : World) (h : cmp_isNaN_int64.f a0 = some r) :
  Calls Tryz.prog 116 #[.int .i64 a0] w fun e w' => e = .returned (.bool r) ∧ Drawn0 w w' := by
 have H : (some (a0 != a0)) = some r := h
 clear h
 obtain rfl := Option.some.inj H
 go_enter Tryz.func116, Tryz.ntmps116
 go_wp2
 go_ret
 exact ⟨ae, by repeat (first | exact Drawn0.refl _ | apply Drawn0.step)⟩
def cmp_Compare_int64.f (a0 : Int) (a1 : Int) : Option (Int) := (cmp_isNaN_int64.f a0).bind fun t498 => ((cmp_isNaN_int64.f a1).bind fun t499 => (if t498 = true then (if t499 = true then (some 0) else (some (-1))) else (if t499 = true then (some 1) else (if a0 < a1 then (some (-1)) else (if a0 > a1 then (some 1) else (some 0))))))
theorem cmp_Compare_int64.calls (a0 : Int) (a1 : Int) (r : Int) (w : World) (h : cmp_Compare_int64.f a0 a1 = some r) :
  Calls Tryz.prog 80 #[.int .i64 a0, .int .i64 a1] w fun e w' => e = .returned (.int .i64 r) ∧ Drawn0 w w' := by
 have H : ((cmp_isNaN_int64.f a0).bind fun t498 => ((cmp_isNaN_int64.f a1).bind fun t499 => (if t498 = true then (if t499 = true then (some 0) else (some (-1))) else (if t499 = true then (some 1) else (if a0 < a1 then (some (-1)) else (if a0 > a1 then (some 1) else (some 0))))))) = some r := h
 clear h
 obtain ⟨t498, A3, H⟩ := bnd H
 obtain ⟨t499, A4, H⟩ := bnd H
 by_cases c5 : t498 = true
 ·subst c5
  replace H := iT H
  by_cases c6 : t499 = true
  ·subst c6
   replace H := iT H
   obtain rfl := Option.some.inj H
   go_enter Tryz.func80, Tryz.ntmps80
   go_wp2_with (first | ((with_reducible refine gate_callee (f := 116) rfl ?_); refine goesL_ (some 8) rfl rfl Tryz.func116 (by kernel_rfl) rfl #[.int .i64 a0] rfl ma ?_; (with_reducible refine (cmp_isNaN_int64.calls a0 true _ A3.out).mono ?_); rintro e w' ⟨rfl, ⟨nd, rfl⟩⟩; refine ⟨_, rfl, ?_⟩) | ((with_reducible refine gate_callee (f := 116) rfl ?_); refine goesL_ (some 10) rfl rfl Tryz.func116 (by kernel_rfl) rfl #[.int .i64 a1] rfl ma ?_; (with_reducible refine (cmp_isNaN_int64.calls a1 true _ A4.out).mono ?_); rintro e w' ⟨rfl, ⟨nd, rfl⟩⟩; refine ⟨_, rfl, ?_⟩))
   go_ret
   exact ⟨ae, by repeat (first | exact Drawn0.refl _ | apply Drawn0.step)⟩
  ·replace c6 := Bool.eq_false_iff.mpr c6
   subst c6
   replace H := iF H
   obtain rfl := Option.some.inj H
   go_enter Tryz.func80, Tryz.ntmps80
   go_wp2_with (first | ((with_reducible refine gate_callee (f := 116) rfl ?_); refine goesL_ (some 8) rfl rfl Tryz.func116 (by kernel_rfl) rfl #[.int .i64 a0] rfl ma ?_; (with_reducible refine (cmp_isNaN_int64.calls a0 true _ A3.out).mono ?_); rintro e w' ⟨rfl, ⟨nd, rfl⟩⟩; refine ⟨_, rfl, ?_⟩) | ((with_reducible refine gate_callee (f := 116) rfl ?_); refine goesL_ (some 10) rfl rfl Tryz.func116 (by kernel_rfl) rfl #[.int .i64 a1] rfl ma ?_; (with_reducible refine (cmp_isNaN_int64.calls a1 false _ A4.out).mono ?_); rintro e w' ⟨rfl, ⟨nd, rfl⟩⟩; refine ⟨_, rfl, ?_⟩))
   go_ret
   exact ⟨ae, by repeat (first | exact Drawn0.refl _ | apply Drawn0.step)⟩
 ·replace c5 := Bool.eq_false_iff.mpr c5
  subst c5
  replace H := iF H
  by_cases c7 : t499 = true
  ·subst c7
   replace H := iT H
   obtain rfl := Option.some.inj H
   go_enter Tryz.func80, Tryz.ntmps80
   go_wp2_with (first | ((with_reducible refine gate_callee (f := 116) rfl ?_); refine goesL_ (some 8) rfl rfl Tryz.func116 (by kernel_rfl) rfl #[.int .i64 a0] rfl ma ?_; (with_reducible refine (cmp_isNaN_int64.calls a0 false _ A3.out).mono ?_); rintro e w' ⟨rfl, ⟨nd, rfl⟩⟩; refine ⟨_, rfl, ?_⟩) | ((with_reducible refine gate_callee (f := 116) rfl ?_); refine goesL_ (some 10) rfl rfl Tryz.func116 (by kernel_rfl) rfl #[.int .i64 a1] rfl ma ?_; (with_reducible refine (cmp_isNaN_int64.calls a1 true _ A4.out).mono ?_); rintro e w' ⟨rfl, ⟨nd, rfl⟩⟩; refine ⟨_, rfl, ?_⟩))
   go_ret
   exact ⟨ae, by repeat (first | exact Drawn0.refl _ | apply Drawn0.step)⟩
  ·replace c7 := Bool.eq_false_iff.mpr c7
   subst c7
   replace H := iF H
   by_cases c8 : a0 < a1
   ·rw [if_pos c8] at H
    have c8b0 : decide (a0 < a1) = true := decide_eq_true c8
    clear c8
    obtain rfl := Option.some.inj H
    go_enter Tryz.func80, Tryz.ntmps80
    go_wp2_with (first | ((with_reducible refine gate_callee (f := 116) rfl ?_); refine goesL_ (some 8) rfl rfl Tryz.func116 (by kernel_rfl) rfl #[.int .i64 a0] rfl ma ?_; (with_reducible refine (cmp_isNaN_int64.calls a0 false _ A3.out).mono ?_); rintro e w' ⟨rfl, ⟨nd, rfl⟩⟩; refine ⟨_, rfl, ?_⟩) | ((with_reducible refine gate_callee (f := 116) rfl ?_); refine goesL_ (some 10) rfl rfl Tryz.func116 (by kernel_rfl) rfl #[.int .i64 a1] rfl ma ?_; (with_reducible refine (cmp_isNaN_int64.calls a1 false _ A4.out).mono ?_); rintro e w' ⟨rfl, ⟨nd, rfl⟩⟩; refine ⟨_, rfl, ?_⟩))
    go_ret
    exact ⟨ae, by repeat (first | exact Drawn0.refl _ | apply Drawn0.step)⟩
   ·rw [if_neg c8] at H
    have c8b0 : decide (a0 < a1) = false := decide_eq_false c8
    clear c8
    by_cases c9 : a0 > a1
    ·rw [if_pos c9] at H
     have c9b0 : decide (a1 < a0) = true := decide_eq_true c9
     clear c9
     obtain rfl := Option.some.inj H
     go_enter Tryz.func80, Tryz.ntmps80
     go_wp2_with (first | ((with_reducible refine gate_callee (f := 116) rfl ?_); refine goesL_ (some 8) rfl rfl Tryz.func116 (by kernel_rfl) rfl #[.int .i64 a0] rfl ma ?_; (with_reducible refine (cmp_isNaN_int64.calls a0 false _ A3.out).mono ?_); rintro e w' ⟨rfl, ⟨nd, rfl⟩⟩; refine ⟨_, rfl, ?_⟩) | ((with_reducible refine gate_callee (f := 116) rfl ?_); refine goesL_ (some 10) rfl rfl Tryz.func116 (by kernel_rfl) rfl #[.int .i64 a1] rfl ma ?_; (with_reducible refine (cmp_isNaN_int64.calls a1 false _ A4.out).mono ?_); rintro e w' ⟨rfl, ⟨nd, rfl⟩⟩; refine ⟨_, rfl, ?_⟩))
     go_ret
     exact ⟨ae, by repeat (first | exact Drawn0.refl _ | apply Drawn0.step)⟩
    ·rw [if_neg c9] at H
     have c9b0 : decide (a1 < a0) = false := decide_eq_false c9
     clear c9
     obtain rfl := Option.some.inj H
     go_enter Tryz.func80, Tryz.ntmps80
     go_wp2_with (first | ((with_reducible refine gate_callee (f := 116) rfl ?_); refine goesL_ (some 8) rfl rfl Tryz.func116 (by kernel_rfl) rfl #[.int .i64 a0] rfl ma ?_; (with_reducible refine (cmp_isNaN_int64.calls a0 false _ A3.out).mono ?_); rintro e w' ⟨rfl, ⟨nd, rfl⟩⟩; refine ⟨_, rfl, ?_⟩) | ((with_reducible refine gate_callee (f := 116) rfl ?_); refine goesL_ (some 10) rfl rfl Tryz.func116 (by kernel_rfl) rfl #[.int .i64 a1] rfl ma ?_; (with_reducible refine (cmp_isNaN_int64.calls a1 false _ A4.out).mono ?_); rintro e w' ⟨rfl, ⟨nd, rfl⟩⟩; refine ⟨_, rfl, ?_⟩))
     go_ret
     exact ⟨ae, by repeat (first | exact Drawn0.refl _ | apply Drawn0.step)⟩
def s_last_1.f (a0_0 : Int) (a0_1 : Int) (a0_2 : Int) (a1_0 : Int) (a1_1 : Int) (a1_2 : Int) : Option (Int) := (cmp_Compare_int64.f a0_0 a1_0).bind fun t502 => (some t502)
theorem s_last_1.calls (a0_0 : Int) (a0_1 : Int) (a0_2 : Int) (a1_0 : Int) (a1_1 : Int) (a1_2 : Int) (r : Int) (w : World) (h : s_last_1.f a0_0 a0_1 a0_2 a1_0 a1_1 a1_2 = some r) :
  Calls Tryz.prog 79 #[.agg #[.int .i64 a0_0, .int .i64 a0_1, .int .i64 a0_2], .agg #[.int .i64 a1_0, .int .i64 a1_1, .int .i64 a1_2]] w fun e w' => e = .returned (.int .i64 r) ∧ Below w.heap.size w w' := by
 have hu39 := Tryz.underlying39
 have HB := Sd.mk (Below.refl w.heap.size w)
 have H : ((cmp_Compare_int64.f a0_0 a1_0).bind fun t502 => (some t502)) = some r := h
 clear h
 obtain ⟨t502, A3, H⟩ := bnd H
 obtain rfl := Option.some.inj H
 go_enter Tryz.func79, Tryz.ntmps79
 go_wp2_with (first | ((with_reducible refine gate_dst (N := 2) rfl ?_); refine bxe (N := 2) (cs := #[.int .i64 a0_0, .int .i64 a0_1, .int .i64 a0_2]) (t := 39) ?_; intro gb500 hg w4 hbox hb; have BK500 := Sd.mk hbox; have GW500 := bge w hg; have GE500 := bge w hg; replace HB := bsq w hb; clear hb hbox hg) | ((with_reducible refine gate_dst (N := 3) rfl ?_); refine bxe (N := 3) (cs := #[.int .i64 a1_0, .int .i64 a1_1, .int .i64 a1_2]) (t := 39) ?_; intro gb501 hg w5 hbox hb; have BK501 := Sd.mk hbox; have GW501 := bge w hg; have GE501 := bge w hg; have NB500_501 := bnl BK500 hg; have NB501_500 := bng BK500 hg; replace BK500 := bkb BK500 hb; replace HB := bsq w hb; clear hb hbox hg; have hnb6 := NB500_501.out; have hnc6 := NB501_500.out; have hcz7_0 := bz0 BK500; have hcz7_1 := bz1 BK500; have hcz7_2 := bz2 BK500; have hfz7_0 := blk_frozen BK500.out 0; have hfz7_1 := blk_frozen BK500.out 1; have hfz7_2 := blk_frozen BK500.out 2; have hcz8_0 := bz0 BK501; have hcz8_1 := bz1 BK501; have hcz8_2 := bz2 BK501; have hfz8_0 := blk_frozen BK501.out 0; have hfz8_1 := blk_frozen BK501.out 1; have hfz8_2 := blk_frozen BK501.out 2) | ((with_reducible refine gate_callee (f := 80) rfl ?_); refine goesL_ (some 9) rfl rfl Tryz.func80 (by kernel_rfl) rfl #[.int .i64 a0_0, .int .i64 a1_0] rfl ma ?_; (with_reducible refine (cmp_Compare_int64.calls a0_0 a1_0 t502 _ A3.out).mono ?_); rintro e w' ⟨rfl, ⟨nd, rfl⟩⟩; refine ⟨_, rfl, ?_⟩))
 go_ret
 exact ⟨fe, bbl⟩
def v_Null.f  : Option (Int × Int) := some (2, 0)
theorem v_Null.calls  (r1 : Int) (r2 : Int) (w : World) (h : v_Null.f  = some (r1, r2)) :
  Calls Tryz.prog 39 #[] w fun e w' => e = .returned (.agg #[.int .i64 r1, .int .i64 r2]) ∧ Below w.heap.size w w' := by
 have hu25 := Tryz.underlying25
 have HB := Sd.mk (Below.refl w.heap.size w)
 have H : (some (2, 0)) = some (r1, r2) := h
 clear h
 simp only [Option.some.injEq, Prod.mk.injEq] at H
 obtain ⟨rfl, rfl⟩ := H
 go_enter Tryz.func39, Tryz.ntmps39
 go_wp2_with (first | ((with_reducible refine gate_dst (N := 0) rfl ?_); refine bxe (N := 0) (cs := #[.int .i64 0, .int .i64 0]) (t := 25) ?_; intro gb503 hg w1 hbox hb; have BK503 := Sd.mk hbox; have GW503 := bge w hg; have GE503 := bge w hg; replace HB := bsq w hb; clear hb hbox hg; have hcz2_0 := bz0 BK503; have hcz2_1 := bz1 BK503; have hfz2_0 := blk_frozen BK503.out 0; have hfz2_1 := blk_frozen BK503.out 1))
 refine bodyPost_ret (results_cell_row rfl _ _ gb503 25 #[.int .i64 2, .int .i64 0] (0, 0) _ rfl (by (repeat refine dw ?_); refine blk_put (cs := #[.int .i64 2, .int .i64 0]) ?_ 1 _ rfl; (repeat refine dw ?_); refine blk_put (cs := #[.int .i64 0, .int .i64 0]) ?_ 0 _ rfl; (repeat refine dw ?_); exact BK503.out) Tryz.underlying25 rfl (by kernel_rfl)) rfl ?_
 exact ⟨fe, bbl⟩
def lb_Make_1.f (k : Nat) (a0_0 : ByteArray) (a0_1 : ByteArray) : Option (Bool) := (lb_nameOK.f k a0_0).bind fun t505 => (if t505 = true then (if a0_1.toList = ([] : List UInt8) then (some true) else (some (decide ((a0_1.size : Int) > 128)))) else (some true))
theorem lb_Make_1.calls (k : Nat) (a0_0 : ByteArray) (a0_1 : ByteArray) (r : Bool) (w : World) (h : lb_Make_1.f k a0_0 a0_1 = some r) :
  Calls Tryz.prog 142 #[.agg #[.string a0_0, .string a0_1]] w fun e w' => e = .returned (.bool r) ∧ Below w.heap.size w w' := by
 have hu62 := Tryz.underlying62
 have HB := Sd.mk (Below.refl w.heap.size w)
 have H : ((lb_nameOK.f k a0_0).bind fun t505 => (if t505 = true then (if a0_1.toList = ([] : List UInt8) then (some true) else (some (decide ((a0_1.size : Int) > 128)))) else (some true))) = some r := h
 clear h
 obtain ⟨t505, A2, H⟩ := bnd H
 by_cases c3 : t505 = true
 ·subst c3
  replace H := iT H
  by_cases c4 : a0_1.toList = ([] : List UInt8)
  ·rw [if_pos c4] at H
   have c4b0 : (a0_1.toList == ([] : List UInt8)) = true := beq_iff_eq.mpr c4
   have c4b1 : (a0_1.toList != ([] : List UInt8)) = false := bne_eq_false_iff_eq.mpr c4
   clear c4
   obtain rfl := Option.some.inj H
   go_enter Tryz.func142, Tryz.ntmps142
   go_wp2_with (first | ((with_reducible refine gate_dst (N := 1) rfl ?_); (try (refine gate_guard (by rfl) ?_; dsimp only)); refine bxe (N := 1) (cs := #[.string a0_0, .string a0_1]) (t := 62) ?_; intro gb504 hg w5 hbox hb; have BK504 := Sd.mk hbox; have GW504 := bge w hg; have GE504 := bge w hg; replace HB := bsq w hb; clear hb hbox hg; have hcz6_0 := bz0 BK504; have hcz6_1 := bz1 BK504; have hfz6_0 := blk_frozen BK504.out 0; have hfz6_1 := blk_frozen BK504.out 1) | ((with_reducible refine gate_callee (f := 143) rfl ?_); refine goesL_ (some 5) rfl rfl Tryz.func143 (by kernel_rfl) rfl #[.string a0_0] rfl ma ?_; (with_reducible refine (lb_nameOK.calls k a0_0 true _ A2.out).mono ?_); rintro e w' ⟨rfl, ⟨nd, rfl⟩⟩; refine ⟨_, rfl, ?_⟩))
   go_ret
   exact ⟨fe, bbl⟩
  ·rw [if_neg c4] at H
   have c4b0 : (a0_1.toList == ([] : List UInt8)) = false := beq_eq_false_iff_ne.mpr c4
   have c4b1 : (a0_1.toList != ([] : List UInt8)) = true := bne_iff_ne.mpr c4
   obtain rfl := Option.some.inj H
   go_enter Tryz.func142, Tryz.ntmps142
   go_wp2_with (first | ((with_reducible refine gate_dst (N := 1) rfl ?_); (try (refine gate_guard (by rfl) ?_; dsimp only)); refine bxe (N := 1) (cs := #[.string a0_0, .string a0_1]) (t := 62) ?_; intro gb504 hg w7 hbox hb; have BK504 := Sd.mk hbox; have GW504 := bge w hg; have GE504 := bge w hg; replace HB := bsq w hb; clear hb hbox hg; have hcz8_0 := bz0 BK504; have hcz8_1 := bz1 BK504; have hfz8_0 := blk_frozen BK504.out 0; have hfz8_1 := blk_frozen BK504.out 1) | ((with_reducible refine gate_callee (f := 143) rfl ?_); refine goesL_ (some 5) rfl rfl Tryz.func143 (by kernel_rfl) rfl #[.string a0_0] rfl ma ?_; (with_reducible refine (lb_nameOK.calls k a0_0 true _ A2.out).mono ?_); rintro e w' ⟨rfl, ⟨nd, rfl⟩⟩; refine ⟨_, rfl, ?_⟩))
   go_ret
   exact ⟨fe, bbl⟩
 ·replace c3 := Bool.eq_false_iff.mpr c3
  subst c3
  replace H := iF H
  obtain rfl := Option.some.inj H
  go_enter Tryz.func142, Tryz.ntmps142
  go_wp2_with (first | ((with_reducible refine gate_dst (N := 1) rfl ?_); (try (refine gate_guard (by rfl) ?_; dsimp only)); refine bxe (N := 1) (cs := #[.string a0_0, .string a0_1]) (t := 62) ?_; intro gb504 hg w9 hbox hb; have BK504 := Sd.mk hbox; have GW504 := bge w hg; have GE504 := bge w hg; replace HB := bsq w hb; clear hb hbox hg; have hcz10_0 := bz0 BK504; have hcz10_1 := bz1 BK504; have hfz10_0 := blk_frozen BK504.out 0; have hfz10_1 := blk_frozen BK504.out 1) | ((with_reducible refine gate_callee (f := 143) rfl ?_); refine goesL_ (some 5) rfl rfl Tryz.func143 (by kernel_rfl) rfl #[.string a0_0] rfl ma ?_; (with_reducible refine (lb_nameOK.calls k a0_0 false _ A2.out).mono ?_); rintro e w' ⟨rfl, ⟨nd, rfl⟩⟩; refine ⟨_, rfl, ?_⟩))
  go_ret
  exact ⟨fe, bbl⟩
end Go.Proofs.YtcmiehddjgfjaaaGreat.A
namespace Go.Proofs.YtcmiehddjgfjaaaGreat.A.ColP
open Go Go.RowKit Go.Shelf Go.Maps Go.Proofs.YtcmiehddjgfjaaaGreatW.PrintWords Go.Proofs.YtcmiehddjgfjaaaGreatW.PrintLast Go.Proofs.YtcmiehddjgfjaaaGreatW.PrintMore
attribute [local go_sem] Oper.semAt_some
abbrev Rw := Int × Int × Int
def cl (x : Rw) : List Value := [.int .i64 x.1, .int .i64 x.2.1, .int .i64 x.2.2]
def z0 : Rw := (0, 0, 0)
abbrev encs (x : Rw) : Array Value := #[.agg #[.int .i64 x.1, .int .i64 x.2.1, .int .i64 x.2.2]]
/-- What has come when k rounds are over. -/
def upto {α : Type} (f : Nat → α) (k : Nat) : List α := (List.range k).map f
theorem upto_succ {α : Type} (f : Nat → α) (k : Nat) : upto f (k + 1) = upto f k ++ [f k] := by simp [upto, List.range_succ]
theorem upto_length {α : Type} (f : Nat → α) (k : Nat) : (upto f k).length = k := by simp [upto]
theorem upto_all (zs : List Rw) : upto (fun j => zs[j]?.getD z0) zs.length = zs := by
  apply List.ext_getElem
  · simp [upto]
  · intro i h1 h2
    simp [upto, h2]
/-- Row A holds zs. -/
def Holds (W : World) (ad : Addr) (zs : List Rw) : Prop := ∀ j, j < zs.length → W.cell? (ad.add (j * 3)) = some (.int .i64 (zs[j]?.getD z0).1) ∧ W.cell? ⟨(ad.add (j * 3)).block, (ad.add (j * 3)).off + 1, none⟩ = some (.int .i64 (zs[j]?.getD z0).2.1) ∧ W.cell? ⟨(ad.add (j * 3)).block, (ad.add (j * 3)).off + 2, none⟩ = some (.int .i64 (zs[j]?.getD z0).2.2)
theorem values1_in (F : Fence) (n : Nat) (h7 : F.fn 115) (hro : F.round = none) (hn : 1 ≤ n) (l Bs n₀ : Nat) (ad : Addr) (cap : Nat) (zs : List Rw) (hreach : zs.length * 24 ≤ 140737488355328) (hb : ad.block < n₀) (J Jx : List Rw → World → Prop) (B : Nat) (hJa : AbidesFrom B J)
    (hY : ∀ pre x W, J pre W → pre.length < zs.length → YieldAt F (n - 1) Tryz.prog l (encs x) W fun e W' =>
      (e = .returned (.bool true) ∧ J (pre ++ [x]) W' ∧ Below n₀ W W') ∨ (e = .returned (.bool false) ∧ Jx (pre ++ [x]) W'))
    (W : World) (hBs : W.cell? ⟨Bs, 0, none⟩ = some (.slice (some ad) zs.length cap)) (hc : Holds W ad zs) (hBn : n₀ ≤ W.heap.size) (h0 : J [] W) :
    CallsIn F n Tryz.prog 115 #[.func (.yield l) #[] #[], .pointer (some ⟨Bs, 0, none⟩)] W fun e W' => (∃ v, e = .returned v) ∧
      ((∃ ys, ys = upto (fun j => zs[j]?.getD z0) zs.length ∧ J ys W') ∨ (∃ pre, (∃ k, k ≤ zs.length ∧ pre = upto (fun j => zs[j]?.getD z0) k) ∧ Jx pre W')) := by
  refine callsIn_of_wp Tryz.func115 rfl h7 ?_ hro
  simp only [Tryz.ntmps115, List.size_toArray, List.length_cons, List.length_nil, Nat.reduceAdd, Nat.reduceSub, Array.replicate_succ, Array.replicate_zero, List.push_toArray, List.append_toArray, List.nil_append, List.cons_append]
  gi_wp2
  gi_loopw [7] (fun i wr => ∃ k : Nat, k ≤ zs.length ∧ i = .int .i64 k ∧ J (upto (fun j => zs[j]?.getD z0) k) wr ∧ Below n₀ W wr)
    (fun i _ => zs.length - (intOf i).toNat)
  case atStart => exact ⟨0, Nat.zero_le _, rfl, h0, Below.refl _ _⟩
  case round =>
    obtain ⟨k, hk, rfl, hJs, hnx⟩ := hrel
    by_cases hlt : k < zs.length
    · obtain ⟨c0, c1, c2⟩ := hc k hlt
      have q0 := (hnx.cell (p := ad.add (k * 3)) (by rw [add_block]; exact hb)).trans c0
      have q1 := (hnx.cell (p := ⟨(ad.add (k * 3)).block, (ad.add (k * 3)).off + 1, none⟩) (by show (ad.add (k * 3)).block < n₀; rw [add_block]; exact hb)).trans c1
      have q2 := (hnx.cell (p := ⟨(ad.add (k * 3)).block, (ad.add (k * 3)).off + 2, none⟩) (by show (ad.add (k * 3)).block < n₀; rw [add_block]; exact hb)).trans c2
      clear c0 c1 c2
      obtain ⟨x, hx⟩ : ∃ x, zs[k]?.getD z0 = x := ⟨_, rfl⟩
      rw [hx] at q0 q1 q2
      obtain ⟨y0, y1, y2⟩ := x
      simp only at q0 q1 q2
      have hJw : J (upto (fun j => zs[j]?.getD z0) k) (wr.alloc (.cells #[.int .i64 y0, .int .i64 y1, .int .i64 y2] 39)) := hJa _ _ _ _ hJs (World.grownBy_alloc wr _ none) (fun r e => by cases e)
      obtain ⟨fn, tmps, assign, body, hy, hR⟩ := hY _ (y0, y1, y2) _ hJw (by rw [upto_length]; exact hlt)
      have HX := Sd.mk hx
      clear hx
      gi_wp2
      refine hR.mono ?_
      rintro e W3 (⟨rfl, hJ3, hk3⟩ | ⟨rfl, hJx3⟩)
      · gi_wp2
        go_roundw
        case rel => exact ⟨k + 1, by omega, by simp, by rw [upto_succ, HX.out]; exact hJ3, (hnx.alloc (by have := hnx.size; omega) _).trans hk3⟩
        case measure => simp [intOf]; omega
      · gi_wp2
        refine bodyPost_ret (results_none rfl _ _ _) rfl ?_
        exact ⟨⟨_, rfl⟩, .inr ⟨_, ⟨k + 1, by omega, by rw [upto_succ, HX.out]⟩, hJx3⟩⟩
    · obtain rfl : k = zs.length := by omega
      gi_wp2
      go_end0
      exact ⟨⟨_, rfl⟩, .inl ⟨_, rfl, hJs⟩⟩
theorem upto_take (zs : List Rw) {k : Nat} (hk : k ≤ zs.length) : upto (fun j => zs[j]?.getD z0) k = zs.take k := by
  apply List.ext_getElem
  · simp [upto, hk]
  · intro i h1 h2
    have : i < zs.length := by simp [upto] at h1; omega
    simp [upto, this]
/-- .. at no element: no round. -/
theorem values1_nil_in (F : Fence) (n : Nat) (h7 : F.fn 115) (hro : F.round = none) (l Bs : Nat) (A : Option Addr) (c : Nat) (J : List Rw → World → Prop) (W : World) (hBs : W.cell? ⟨Bs, 0, none⟩ = some (.slice A 0 c)) (h0 : J [] W) :
    CallsIn F n Tryz.prog 115 #[.func (.yield l) #[] #[], .pointer (some ⟨Bs, 0, none⟩)] W fun e W' => (∃ v, e = .returned v) ∧ J [] W' := by
  refine callsIn_of_wp Tryz.func115 rfl h7 ?_ hro
  simp only [Tryz.ntmps115, List.size_toArray, List.length_cons, List.length_nil, Nat.reduceAdd, Nat.reduceSub, Array.replicate_succ, Array.replicate_zero, List.push_toArray, List.append_toArray, List.nil_append, List.cons_append]
  gi_wp2
  gi_loopw [7] (fun i wr => i = .int .i64 0 ∧ J [] wr) (fun _ _ => 0)
  case atStart => exact ⟨rfl, h0⟩
  case round =>
    obtain ⟨rfl, hJs⟩ := hrel
    gi_wp2
    go_end0
    exact ⟨⟨_, rfl⟩, hJs⟩
/-- slices.Values: the slice value is boxed; the function value captures the box. -/
theorem values_in (F : Fence) (n : Nat) (h5 : F.fn 78) (hro : F.round = none) (a : Option Addr) (len cap : Nat) (w : World) :
    CallsIn F n Tryz.prog 78 #[.slice a len cap] w fun e w' => e = .returned (.func (.func 115) #[] #[.pointer (some ⟨w.heap.size, 0, none⟩)]) ∧ w' = w.alloc (.cells #[.slice a len cap] 22) := by
  refine callsIn_of_wp Tryz.func78 rfl h5 ?_ hro
  simp only [Tryz.ntmps78, List.size_toArray, List.length_cons, List.length_nil, Nat.reduceAdd, Nat.reduceSub, Array.replicate_succ, Array.replicate_zero, List.push_toArray, List.append_toArray, List.nil_append, List.cons_append]
  gi_wp2
  go_ret
  exact ⟨rfl, rfl⟩
/-- A row of cells below n₀ (or none). -/
def Row (n₀ : Nat) (W : World) (A : Option Addr) (zs : List Rw) : Prop := zs = [] ∨ ∃ ad, A = some ad ∧ ad.block < n₀ ∧ Holds W ad zs
theorem Row.below {n₀ : Nat} {X Y : World} (h : Below n₀ X Y) {A : Option Addr} {zs : List Rw} : Row n₀ X A zs → Row n₀ Y A zs
  | .inl e => .inl e
  | .inr ⟨ad, e, hb, hc⟩ => .inr ⟨ad, e, hb, fun j hj => by
    obtain ⟨c0, c1, c2⟩ := hc j hj
    exact ⟨(h.cell (p := ad.add (j * 3)) (by rw [add_block]; exact hb)).trans c0, (h.cell (p := ⟨(ad.add (j * 3)).block, (ad.add (j * 3)).off + 1, none⟩) (by show (ad.add (j * 3)).block < n₀; rw [add_block]; exact hb)).trans c1, (h.cell (p := ⟨(ad.add (j * 3)).block, (ad.add (j * 3)).off + 2, none⟩) (by show (ad.add (j * 3)).block < n₀; rw [add_block]; exact hb)).trans c2⟩⟩
/-- slices.Values hands back a value that gives the row's elements, in order. -/
theorem values_stops (F : Fence) (n : Nat) (h7 : F.fn 115) (hro : F.round = none) (hn : 1 ≤ n) (Bs n₀ : Nat) (A : Option Addr) (cap : Nat) (zs : List Rw) (hreach : zs.length * 24 ≤ 140737488355328) (w : World) (hBs : Bs < w.heap.size) (hn₀ : n₀ ≤ w.heap.size)
    (hc : w.cell? ⟨Bs, 0, none⟩ = some (.slice A zs.length cap)) (hI : Row n₀ w A zs) :
    SeqStopsK F n Tryz.prog 115 #[.pointer (some ⟨Bs, 0, none⟩)] encs (Below n₀) (fun ys => ys = zs) (fun pre => pre <+: zs) zs.length w := fun l J Jx W hW hJa _ hY h0 => by
  have hc' := (hW.cell (p := ⟨Bs, 0, none⟩) hBs).trans hc
  rcases hI.below (hW.mono hn₀) with rfl | ⟨ad, rfl, hb, hcs⟩
  · exact (values1_nil_in F n h7 hro l Bs A cap J W hc' h0).mono fun e W' ⟨he, hj⟩ => ⟨he, .inl ⟨_, rfl, hj⟩⟩
  · refine (values1_in F n h7 hro hn l Bs n₀ ad cap zs hreach hb J Jx _ hJa hY W hc' hcs (Nat.le_trans hn₀ hW.size) h0).mono ?_
    rintro e W' ⟨he, ⟨ys, rfl, hj⟩ | ⟨pre, ⟨k, hk, rfl⟩, hj⟩⟩
    · exact ⟨he, .inl ⟨_, upto_all zs, hj⟩⟩
    · exact ⟨he, .inr ⟨_, by rw [upto_take zs hk]; exact List.take_prefix _ _, hj⟩⟩
def flat (zs : List Rw) : List Value := zs.flatMap cl
theorem flat_snoc (zs : List Rw) (x : Rw) : flat (zs ++ [x]) = flat zs ++ cl x := by simp [flat]
theorem cells_new (W : World) (x : Rw) (t : TypeId) : ∀ (j : Nat) (u : Value), (cl x)[j]? = some u → (W.alloc (.cells #[.int .i64 x.1, .int .i64 x.2.1, .int .i64 x.2.2] t)).cell? ((⟨W.heap.size, 0, none⟩ : Addr).add j) = some u := by
  intro j u hu
  have h := blk_cell (blk_new W (.cells #[.int .i64 x.1, .int .i64 x.2.1, .int .i64 x.2.2] t)) j
  rw [add_at, Nat.zero_add, h]
  match j, hu with
  | 0, hu => exact hu
  | 1, hu => exact hu
  | 2, hu => exact hu
  | j + 3, hu => simp [cl] at hu
theorem cl_one (x : Rw) : ∀ u ∈ cl x, u.oneCell' = true := by
  intro u hu
  simp only [cl, List.mem_cons, List.not_mem_nil, or_false] at hu
  rcases hu with rfl | rfl | rfl <;> rfl
/-- A loop variable's box. -/
def VBox (W : World) (Bx : Nat) (x : Rw) : Prop := W.heap[Bx]? = some (.cells #[.int .i64 x.1, .int .i64 x.2.1, .int .i64 x.2.2] 39 (0, 0))
theorem appendSeq_in (F : Fence) (n : Nat) (h145 : F.fn 155) (h90 : F.fn 115) (hro : F.round = none) (hn : 2 ≤ n) (Bs : Nat) (A : Option Addr) (cap : Nat) (zs : List Rw) (hreach : zs.length * 24 ≤ 140737488355328) (w : World) (hBs : Bs < w.heap.size)
    (hc : w.cell? ⟨Bs, 0, none⟩ = some (.slice A zs.length cap)) (hI : Row w.heap.size w A zs) :
    CallsIn F n Tryz.prog 155 #[.slice none 0 0, .func (.func 115) #[] #[.pointer (some ⟨Bs, 0, none⟩)]] w fun e W' => ∃ v, e = .returned v ∧ W'.ownsRow w.heap.size 39 3 v zs.length (flat zs) ∧ Below w.heap.size w W' := by
  have h1 : 1 ≤ n := by omega
  obtain ⟨i0, hi, hz0, hz1, hz2⟩ := info_parts info39
  refine callsIn_of_wp_marks Tryz.func155 rfl h145 ?_ hro
  simp only [Tryz.ntmps155, List.size_toArray, List.length_cons, List.length_nil, Nat.reduceAdd, Nat.reduceSub, Array.replicate_succ, Array.replicate_zero, List.push_toArray, List.append_toArray, List.nil_append, List.cons_append]
  gi_wp2
  have bS := Boxed.new w 22 (.slice none 0 0)
  have hB0 : Below w.heap.size w (w.alloc (.cells #[.slice none 0 0] 22)) := (Below.refl _ w).alloc (Nat.le_refl _) _
  refine wpIn_rangeFunc_ownH hro h1 (gf := 115) (lb := #[.pointer (some ⟨Bs, 0, none⟩)]) rfl h90 (enters_of Tryz.func115 (by kernel_rfl) rfl)
    (values_stops F (n - 1) h90 hro (by omega) Bs w.heap.size A cap zs hreach _ (by simp; omega) (by simp) ((hB0.cell (p := ⟨Bs, 0, none⟩) hBs).trans hc) (hI.below hB0)) belowK_t (belowK_b (by simp)) (Below.refl _ _) (fun _ => rfl)
    (fun pre W => (∃ v, Boxed W w.heap.size 22 v ∧ W.ownsRow w.heap.size 39 3 v pre.length (flat pre) ∧ True) ∧ Below w.heap.size w W)
    (fun _ _ _ => False)
    (OwnFrom.and (Own.from (holdsRow_own w.heap.size w.heap.size 22 39 3 (fun pre : List Rw => pre.length) (fun pre => flat pre) (fun _ _ => True)) _) (ownFrom_below (Nat.le_refl _) (by simp)))
    (fun _ _ _ _ _ hs _ _ => hs)
    ⟨⟨_, bS, World.ownsRow_nil _ _ _ _, trivial⟩, hB0⟩
    (fun x a' W => ∃ Bx, w.heap.size < Bx ∧ VBox W Bx x ∧ a' = { tmps := #[.slice none 0 0, .func (.func 115) #[] #[.pointer (some ⟨Bs, 0, none⟩)], .pointer (some ⟨w.heap.size, 0, none⟩), undef, .slice none 0 0, .pointer (some ⟨Bx, 0, none⟩), .func (.func 115) #[] #[.pointer (some ⟨Bs, 0, none⟩)], .agg #[.int .i64 x.1, .int .i64 x.2.1, .int .i64 x.2.2], undef, undef, undef, undef, undef], defers := [] })
    (fun x a' _ W W' row hs hg hr => by
      obtain ⟨Bx, hB, hv, he⟩ := hs
      refine ⟨Bx, hB, (hg.block Bx (Array.getElem?_eq_some_iff.1 hv).1 (fun e => ?_)).trans hv, he⟩
      obtain ⟨_, o, ho, hoc⟩ := hr Bx e.symm
      rw [hv] at ho
      cases ho
      cases hoc) ?assign ?body ?done ?stop
  case assign =>
    rintro l pre x W K ⟨⟨v, hv, hrow, _⟩, hB⟩ hK
    obtain ⟨y0, y1, y2⟩ := x
    gi_wp2
    exact hK _ _ ((KeepsOthers.alloc _ _).from _) ((Below.refl _ W).alloc hB.size _) ⟨⟨v, hv.alloc _, hrow.alloc _, trivial⟩, hB.alloc hB.size _⟩ ⟨W.heap.size, hv.lt, blk_new W _, rfl⟩
  case body =>
    rintro l pre x a' W hl ⟨r, hr⟩ ⟨⟨v, hv, hrow, _⟩, hB⟩ ⟨Bx, hBx, hvx, rfl⟩ hlt
    obtain ⟨y0, y1, y2⟩ := x
    have b0 := (blk_cell hvx 0).trans rfl
    have b1 := (blk_cell hvx 1).trans rfl
    have b2 := (blk_cell hvx 2).trans rfl
    have hvc := hv.cell
    have hvf := hv.frozen
    have hle : w.heap.size ≤ W.heap.size := hB.size
    gi_wp2_with (gi_at_builtin; refine wpListIn_append_own _ rfl _ _ 22 rfl w.heap.size 39 i0 _ 3 24 Tryz.underlying22 hi hz0 hz1 hz2 rfl (by decide) _ _ _ rfl (hrow.alloc _) ⟨W.heap.size, 0, none⟩ 1 1 (cl (y0, y1, y2)) rfl rfl (cells_new W (y0, y1, y2) _) (cl_one _) (by unfold maxLen; omega) (by omega) (by simp; omega) ?_; intro v' w1 hown' hgrow _; obtain ⟨g', cap', rfl⟩ := ownsRow_succ hown'; obtain ⟨hv1, hv2, hr2, hk2, hb2⟩ := hv.appended (by decide) hrow hB.size (Nat.le_refl _) hown' hgrow; have hc1 := hv1.cell; have hf1 := hv1.frozen)
    exact ⟨hk2.from _, hb2, ⟨_, hv2, by rw [flat_snoc, List.length_append]; exact hr2⟩, hB.trans hb2⟩
  case done =>
    rintro D ys W hD rfl ⟨⟨v, hv, hrow, _⟩, hB⟩ hK
    have hvc := hv.cell
    gi_wp2
    refine ⟨by simp, .inl ⟨_, _, rfl, run_takeDeferred hK, ?_⟩⟩
    exact ⟨_, results_tmp rfl _ _ _, v, rfl, ownsRow_putObj hrow _ hK rfl, hB.trans (belowK_b (w := w) (Nat.le_refl _) W D _ _ (by simp at hD; omega) hK rfl rfl)⟩
  case stop =>
    rintro D c pre W _ _ h _
    exact h.elim
end Go.Proofs.YtcmiehddjgfjaaaGreat.A.ColP
namespace Go.Proofs.YtcmiehddjgfjaaaGreat.St
open Go.Proofs Go.Shelf Go.RowKit Go.Lib Go.Sort
variable {P : Program} {α : Type} [Inhabited α] {enc : α → List Value} {k : Nat} {w0 W : World} {blk off : Nat} {dk : Array α}
theorem aside {p : Prop} (h : p) : Aside p := h
/-- W but for how often was drawn. -/
def undrawn (W : World) (n : Nat) : World := { W with drawn := n }
/-- W is a world of the sort's, but for how often was drawn. -/
def SB (enc : α → List Value) (k : Nat) (w0 : World) (blk off : Nat) (dk : Array α) (W : World) : Prop := ∃ n, SWK enc k w0 blk off dk (undrawn W n)
theorem SB.start (h : HoldsK enc k w0 blk off dk) : SB enc k w0 blk off dk w0 := ⟨w0.drawn, SWK.start h⟩
theorem SB.drewN (h : SB enc k w0 blk off dk W) (q : Nat) : SB enc k w0 blk off dk (W.drewN q) := by
  obtain ⟨n, h⟩ := h
  exact ⟨n, h⟩
theorem SB.drew (h : SB enc k w0 blk off dk W) : SB enc k w0 blk off dk W.drew := h.drewN 1
theorem grow_of_below {w w' : World} (h : Below w.heap.size w w') (n : Nat) : undrawn w' n = grow (undrawn w n) (w'.heap.extract w.heap.size w'.heap.size) := by
  have e : w'.heap = w.heap ++ w'.heap.extract w.heap.size w'.heap.size := by
    apply Array.ext_getElem?
    intro i
    by_cases hi : i < w.heap.size
    · rw [h.block i hi, Array.getElem?_append_left hi]
    · rw [Array.getElem?_append_right (by omega), Array.getElem?_extract]
      by_cases h2 : i < w'.heap.size
      · rw [if_pos (by omega)]; congr 1; omega
      · rw [if_neg (by omega), Array.getElem?_eq_none (by omega)]
  have h1 := h.os; have h2 := h.tape; have h3 := h.output
  unfold undrawn grow
  cases w; cases w'
  simp only at h1 h2 h3 e ⊢
  subst h1; subst h2; subst h3
  rw [← e]
theorem SB.below {w' : World} (h : SB enc k w0 blk off dk W) (hb : Below W.heap.size W w') : SB enc k w0 blk off dk w' := by
  obtain ⟨n, m, os, h⟩ := h
  refine ⟨n, m, os ++ w'.heap.extract W.heap.size w'.heap.size, ?_⟩
  rw [grow_of_below hb n, h]
  unfold sortWorldK
  rw [grow_grow]
theorem undrawn_setCells (b n : Nat) : ∀ (vs : List Value) (o : Nat) (W : World), undrawn (W.setCells b o vs) n = (undrawn W n).setCells b o vs
  | [], o, W => rfl
  | v :: vs, o, W => by rw [World.setCells, World.setCells, undrawn_setCells b n vs]; rfl
variable {d0 : Array α}
theorem SB.holds (h : SB enc k w0 blk off dk W) (R : RowK enc k w0 blk off d0) (hs : dk.size = d0.size) : HoldsK enc k W blk off dk := by
  obtain ⟨n, h⟩ := h
  exact h.holds R.hblk R.hH hs
theorem SB.load (h : SB enc k w0 blk off dk W) (R : RowK enc k w0 blk off d0) (hs : dk.size = d0.size) (P : Program) (i : Nat) (hi : i < dk.size) :
    Sem.run P (loadCellsFrom ⟨blk, off + i * k, none⟩ 0 k #[]) W = .ok (enc dk[i]!).toArray W :=
  run_loadCellsFrom_list P _ _ _ k (R.hk _) (HoldsK.cells (h.holds R hs) R.hk hi)
theorem SB.ld1 (h : SB enc k w0 blk off dk W) (R : RowK enc k w0 blk off d0) (hs : dk.size = d0.size) (P : Program) (i : Nat) (hi : i < dk.size) :
    Sem.run P (loadCellsFrom ⟨blk, off + i * k, none⟩ 0 k #[]) W.drew = .ok (enc dk[i]!).toArray W.drew := h.drew.load R hs P i hi
theorem SB.st1 (h : SB enc k w0 blk off dk W) (R : RowK enc k w0 blk off d0) (hs : dk.size = d0.size) (P : Program) (i : Nat) (hi : i < dk.size) (y : α) :
    Sem.run P (storeCells ⟨blk, off + i * k, none⟩ (enc y) 0) W.drew = .ok () (W.drew.setCells blk (off + i * k) (enc y)) :=
  stores_of_holds P (h.drew.holds R hs) (i * k) _ (by rw [R.hk, size_flatK]; exact rowK_bnd dk k i hi) (R.h1 _)
theorem SB.st2 (h : SB enc k w0 blk off dk W) (R : RowK enc k w0 blk off d0) (hs : dk.size = d0.size) (P : Program) (i j : Nat) (hi : i < dk.size) (hj : j < dk.size) (y x : α) :
    Sem.run P (storeCells ⟨blk, off + j * k, none⟩ (enc x) 0) (W.drew.setCells blk (off + i * k) (enc y)) = .ok () ((W.drew.setCells blk (off + i * k) (enc y)).setCells blk (off + j * k) (enc x)) :=
  stores_of_holds P (holds_setCells_c (h.drew.holds R hs) (i * k) _ (by rw [R.hk, size_flatK]; exact rowK_bnd dk k i hi)) (j * k) _ (by rw [R.hk, size_setMany, size_flatK]; exact rowK_bnd dk k j hj) (R.h1 _)
theorem SB.swapped (h : SB enc k w0 blk off dk W) (R : RowK enc k w0 blk off d0) (i j : Nat) (hi : i < dk.size) (hj : j < dk.size) :
    SB enc k w0 blk off (swp dk i j) ((W.drew.setCells blk (off + i * k) (enc dk[j]!)).setCells blk (off + j * k) (enc dk[i]!)) := by
  obtain ⟨n, h⟩ := h
  refine ⟨n, ?_⟩
  rw [undrawn_setCells, undrawn_setCells]
  exact h.swap R.hk R.hblk i j hi hj
/-- A world of the class, under one name (for the class of worlds of a region that only reads and calls). -/
structure SBW (enc : α → List Value) (k : Nat) (w0 : World) (blk off : Nat) (dk : Array α) where
  w : World
  h : SB enc k w0 blk off dk w
/-- What the sort is told of 'cmp'. -/
def CmpB (P : Program) (g : Nat) (cb : Array Value) (enc : α → List Value) (k : Nat) (cf : α → α → Int) (blk off size : Nat) (w0 : World) : Prop :=
  ∀ (dk : Array α) (W : World), dk.size = size → SB enc k w0 blk off dk W → ∀ x y : α,
    Calls P g (#[.agg (enc x).toArray, .agg (enc y).toArray] ++ cb) W fun e w' => e = .returned (.int .i64 (cf x y)) ∧ Below W.heap.size W w'
/-- The test's call, met in a world of the class. -/
theorem CmpB.at {g : Nat} {cb : Array Value} {cf : α → α → Int} {size : Nat} (hC : CmpB P g cb enc k cf blk off size w0) (p : SBW enc k w0 blk off dk) (hs : dk.size = size) (x y : α) :
    Calls P g (#[.agg (enc x).toArray, .agg (enc y).toArray] ++ cb) p.w fun e w' => e = .returned (.int .i64 (cf x y)) ∧ ∃ q : SBW enc k w0 blk off dk, w' = q.w :=
  (hC dk p.w hs p.h x y).mono fun _ _ ⟨he, hb⟩ => ⟨he, ⟨_, p.h.below hb⟩, rfl⟩
/-- A region whose operations only read, and whose callees lay blocks at most: one walk, in the order of the text, in whatever world of the class. -/
theorem wp_region_sb {id : Nat} {Q : Exit → Act → World → Prop} {a : Act} {w : World} {l : List Oper} (hS : SB enc k w0 blk off dk w) (hm : P.follows .mixedOrders = true) (hB : Region.lexB .any l.toArray = true)
    (h : wpQuiet P l.toArray (fun w' => ∃ p : SBW enc k w0 blk off dk, w' = p.w) (fun a' => ∀ w', (∃ p : SBW enc k w0 blk off dk, w' = p.w) → Q .normal a' w') l a) : (Code.region id l.toArray true).wp P Q a w :=
  wp_region_quiet (C := fun w' => ∃ p : SBW enc k w0 blk off dk, w' = p.w) hm hB ⟨⟨_, hS.drew⟩, rfl⟩ (by simpa using h)
end Go.Proofs.YtcmiehddjgfjaaaGreat.St
namespace Go.Proofs.YtcmiehddjgfjaaaGreat.Stable
section
variable {α : Type}
/-- 'lt' orders, up to equals. -/
structure Ord (lt : α → α → Bool) : Prop where
  trans : ∀ a b c, lt a b = true → lt b c = true → lt a c = true
  skip : ∀ z x y, lt z x = true → lt y x = false → lt z y = true
  asym : ∀ a b, lt a b = true → lt b a = false
variable (lt : α → α → Bool)
/-- Two lists in one; of equals the first list's come first. -/
def merge : List α → List α → List α
  | [], v => v
  | x :: u, [] => x :: u
  | x :: u, y :: v => if lt y x = true then y :: merge (x :: u) v else x :: merge u (y :: v)
theorem merge_nil (u : List α) : merge lt u [] = u := by cases u <;> rw [merge]
theorem nil_merge (v : List α) : merge lt [] v = v := by rw [merge]
theorem merge_length : ∀ u v : List α, (merge lt u v).length = u.length + v.length
  | [], v => by rw [merge]; simp
  | x :: u, [] => by rw [merge]; simp
  | x :: u, y :: v => by
    rw [merge]
    split
    · rw [List.length_cons, merge_length (x :: u) v]; simp; omega
    · rw [List.length_cons, merge_length u (y :: v)]; simp; omega
variable {lt}
theorem merge_assoc (h : Ord lt) : ∀ a b c : List α, merge lt (merge lt a b) c = merge lt a (merge lt b c)
  | [], b, c => by rw [merge, merge]
  | x :: a, [], c => by rw [merge, merge]
  | x :: a, y :: b, [] => by rw [merge_nil, merge_nil]
  | x :: a, y :: b, z :: c => by
    cases hyx : lt y x with
    | false =>
      cases hzx : lt z x with
      | true =>
        have hzy := h.skip z x y hzx hyx
        have e := merge_assoc h (x :: a) (y :: b) c
        have l1 : merge lt (x :: a) (y :: b) = x :: merge lt a (y :: b) := by rw [merge, if_neg (by simp [hyx])]
        have r1 : merge lt (y :: b) (z :: c) = z :: merge lt (y :: b) c := by rw [merge, if_pos hzy]
        rw [l1, merge, if_pos hzx, r1, merge, if_pos hzx, ← l1, e]
      | false =>
        have e := merge_assoc h a (y :: b) (z :: c)
        have l1 : merge lt (x :: a) (y :: b) = x :: merge lt a (y :: b) := by rw [merge, if_neg (by simp [hyx])]
        rw [l1, merge, if_neg (by simp [hzx]), e]
        cases hzy : lt z y with
        | true =>
          have r1 : merge lt (y :: b) (z :: c) = z :: merge lt (y :: b) c := by rw [merge, if_pos hzy]
          rw [r1, merge, if_neg (by simp [hzx])]
        | false =>
          have r1 : merge lt (y :: b) (z :: c) = y :: merge lt b (z :: c) := by rw [merge, if_neg (by simp [hzy])]
          rw [r1, merge, if_neg (by simp [hyx])]
    | true =>
      have l1 : merge lt (x :: a) (y :: b) = y :: merge lt (x :: a) b := by rw [merge, if_pos hyx]
      cases hzy : lt z y with
      | true =>
        have hzx := h.trans z y x hzy hyx
        have e := merge_assoc h (x :: a) (y :: b) c
        have r1 : merge lt (y :: b) (z :: c) = z :: merge lt (y :: b) c := by rw [merge, if_pos hzy]
        rw [l1, merge, if_pos hzy, r1, merge, if_pos hzx, ← l1, e]
      | false =>
        have e := merge_assoc h (x :: a) b (z :: c)
        have r1 : merge lt (y :: b) (z :: c) = y :: merge lt b (z :: c) := by rw [merge, if_neg (by simp [hzy])]
        rw [l1, merge, if_neg (by simp [hzy]), r1, merge, if_pos hyx, e]
termination_by a b c => a.length + b.length + c.length
theorem merge_split : ∀ (u1 v1 u2 v2 : List α), (∀ x ∈ u1, ∀ y ∈ v2, lt y x = false) → (∀ y ∈ v1, ∀ x ∈ u2, lt y x = true) → merge lt (u1 ++ u2) (v1 ++ v2) = merge lt u1 v1 ++ merge lt u2 v2
  | [], [], u2, v2, _, _ => by rw [merge]; rfl
  | x :: u1, [], u2, v2, h1, h2 => by
    have ih := merge_split u1 [] u2 v2 (fun a ha => h1 a (List.mem_cons_of_mem _ ha)) h2
    rw [List.nil_append] at ih ⊢
    rw [merge_nil] at ih ⊢
    cases v2 with
    | nil => rw [merge_nil, merge_nil]
    | cons y v2 =>
      rw [List.cons_append, merge, if_neg (by rw [h1 x List.mem_cons_self y List.mem_cons_self]; simp), ih]; rfl
  | [], y :: v1, u2, v2, h1, h2 => by
    have ih := merge_split [] v1 u2 v2 h1 (fun a ha => h2 a (List.mem_cons_of_mem _ ha))
    rw [List.nil_append] at ih ⊢
    rw [nil_merge] at ih ⊢
    cases u2 with
    | nil => rw [nil_merge, nil_merge]
    | cons x u2 =>
      rw [List.cons_append, merge, if_pos (h2 y List.mem_cons_self x List.mem_cons_self), ih]; rfl
  | x :: u1, y :: v1, u2, v2, h1, h2 => by
    rw [List.cons_append, List.cons_append, merge, merge]
    split
    · have ih := merge_split (x :: u1) v1 u2 v2 h1 (fun a ha => h2 a (List.mem_cons_of_mem _ ha))
      rw [List.cons_append] at ih
      rw [ih]; rfl
    · have ih := merge_split u1 (y :: v1) u2 v2 (fun a ha => h1 a (List.mem_cons_of_mem _ ha)) h2
      rw [List.cons_append] at ih
      rw [ih]; rfl
termination_by u1 v1 => u1.length + v1.length
variable (lt)
/-- None is ahead of one that stands before it. -/
def Sorted (l : List α) : Prop := l.Pairwise fun a b => lt b a = false
/-- The stable order. -/
def isort (l : List α) : List α := l.foldl (fun s x => merge lt s [x]) []
variable {lt}
theorem mem_merge : ∀ {u v : List α} {z : α}, z ∈ merge lt u v → z ∈ u ∨ z ∈ v
  | [], v, z, h => by rw [merge] at h; exact .inr h
  | x :: u, [], z, h => by rw [merge] at h; exact .inl h
  | x :: u, y :: v, z, h => by
    rw [merge] at h
    split at h
    · rcases List.mem_cons.1 h with rfl | h
      · exact .inr List.mem_cons_self
      · rcases mem_merge h with h | h
        · exact .inl h
        · exact .inr (List.mem_cons_of_mem _ h)
    · rcases List.mem_cons.1 h with rfl | h
      · exact .inl List.mem_cons_self
      · rcases mem_merge h with h | h
        · exact .inl (List.mem_cons_of_mem _ h)
        · exact .inr h
theorem Ord.le_trans (h : Ord lt) {a b c : α} (h1 : lt b a = false) (h2 : lt c b = false) : lt c a = false := by
  cases hc : lt c a with
  | false => rfl
  | true => exact absurd (h.skip c a b hc h1) (by simp [h2])
theorem merge_sorted (h : Ord lt) : ∀ {u v : List α}, Sorted lt u → Sorted lt v → Sorted lt (merge lt u v)
  | [], v, _, hv => by rw [merge]; exact hv
  | x :: u, [], hu, _ => by rw [merge]; exact hu
  | x :: u, y :: v, hu, hv => by
    obtain ⟨hu1, hu2⟩ := List.pairwise_cons.1 hu
    obtain ⟨hv1, hv2⟩ := List.pairwise_cons.1 hv
    rw [merge]
    split
    · rename_i hyx
      refine List.pairwise_cons.2 ⟨fun z hz => ?_, merge_sorted h hu hv2⟩
      rcases mem_merge hz with hz | hz
      · rcases List.mem_cons.1 hz with rfl | hz
        · exact h.asym _ _ hyx
        · exact h.le_trans (h.asym _ _ hyx) (hu1 z hz)
      · exact hv1 z hz
    · rename_i hyx
      have hyx' : lt y x = false := by simpa using hyx
      refine List.pairwise_cons.2 ⟨fun z hz => ?_, merge_sorted h hu2 hv⟩
      rcases mem_merge hz with hz | hz
      · exact hu1 z hz
      · rcases List.mem_cons.1 hz with rfl | hz
        · exact hyx'
        · exact h.le_trans hyx' (hv1 z hz)
termination_by u v => u.length + v.length
theorem foldl_merge (h : Ord lt) : ∀ (l s : List α), l.foldl (fun s x => merge lt s [x]) s = merge lt s (isort lt l)
  | [], s => by rw [isort, List.foldl_nil, List.foldl_nil, merge_nil]
  | x :: l, s => by
    rw [isort, List.foldl_cons, List.foldl_cons, foldl_merge h l, foldl_merge h l, nil_merge, merge_assoc h]
theorem isort_append (h : Ord lt) (a b : List α) : isort lt (a ++ b) = merge lt (isort lt a) (isort lt b) := by
  conv => lhs; rw [isort, List.foldl_append]
  rw [foldl_merge h b]; rfl
theorem isort_snoc (l : List α) (x : α) : isort lt (l ++ [x]) = merge lt (isort lt l) [x] := by
  rw [isort, List.foldl_append]; rfl
theorem isort_length (l : List α) : (isort lt l).length = l.length := by
  have : ∀ (l s : List α), (l.foldl (fun s x => merge lt s [x]) s).length = s.length + l.length := by
    intro l
    induction l with
    | nil => intro s; simp
    | cons x l ih => intro s; rw [List.foldl_cons, ih, merge_length]; simp; omega
  have := this l []
  simpa [isort] using this
theorem isort_sorted (h : Ord lt) (l : List α) : Sorted lt (isort lt l) := by
  have : ∀ (l s : List α), Sorted lt s → Sorted lt (l.foldl (fun s x => merge lt s [x]) s) := by
    intro l
    induction l with
    | nil => intro s hs; exact hs
    | cons x l ih => intro s hs; exact ih _ (merge_sorted h hs (List.pairwise_singleton _ _))
  exact this l [] List.Pairwise.nil
/-- One behind a sorted list goes where none ahead of it is greater, and all behind it are. -/
theorem merge_one (s1 s2 : List α) (x : α) (h1 : ∀ e ∈ s1, lt x e = false) (h2 : ∀ e ∈ s2, lt x e = true) : merge lt (s1 ++ s2) [x] = s1 ++ x :: s2 := by
  have := merge_split (lt := lt) s1 [] s2 [x] (fun a ha y hy => by rw [List.mem_singleton] at hy; subst hy; exact h1 a ha) (fun y hy => by cases hy)
  rw [List.nil_append, merge_nil] at this
  rw [this]
  congr 1
  have h3 := merge_split (lt := lt) [] [x] s2 [] (fun a ha => by cases ha) (fun y hy a ha => by rw [List.mem_singleton] at hy; subst hy; exact h2 a ha)
  rw [List.nil_append, List.append_nil, nil_merge, merge_nil] at h3
  exact h3
/-- One ahead of a sorted list. -/
theorem one_merge (v1 v2 : List α) (x : α) (h1 : ∀ e ∈ v1, lt e x = true) (h2 : ∀ e ∈ v2, lt e x = false) : merge lt [x] (v1 ++ v2) = v1 ++ x :: v2 := by
  have := merge_split (lt := lt) [] v1 [x] v2 (fun a ha => by cases ha) (fun y hy a ha => by rw [List.mem_singleton] at ha; subst ha; exact h1 y hy)
  rw [List.nil_append, nil_merge] at this
  rw [this]
  congr 1
  have h3 := merge_split (lt := lt) [x] [] [] v2 (fun a ha y hy => by rw [List.mem_singleton] at ha; subst ha; exact h2 y hy) (fun y hy => by cases hy)
  rw [List.nil_append, List.append_nil, nil_merge, merge_nil] at h3
  exact h3
theorem Sorted.getElem {l : List α} (hs : Sorted lt l) {i j : Nat} (hij : i < j) (hj : j < l.length) : lt l[j] (l[i]'(by omega)) = false := (List.pairwise_iff_getElem.1 hs) i j (by omega) hj hij
end
end Go.Proofs.YtcmiehddjgfjaaaGreat.Stable
namespace Go.Proofs.YtcmiehddjgfjaaaGreat.St
open Go.Sort Go.Proofs.YtcmiehddjgfjaaaGreat.Stable
section
variable {α : Type} [Inhabited α]
/-- The elements of two ranges, exchanged one by one. -/
def swpR (a b : Nat) : Nat → Nat → Array α → Array α
  | _, 0, d => d
  | i, m + 1, d => swpR a b (i + 1) m (swp d (a + i) (b + i))
theorem get_at (d : Array α) (x y : List α) (a : α) (h : d.toList = x ++ a :: y) : d[x.length]! = a := by
  rw [getElem!_def]
  have : d[x.length]? = some a := by rw [← Array.getElem?_toList, h]; simp
  rw [this]
theorem swp_list (d : Array α) (x y z : List α) (a b : α) (h : d.toList = x ++ a :: (y ++ b :: z)) : (swp d x.length (x.length + 1 + y.length)).toList = x ++ b :: (y ++ a :: z) := by
  have ga := get_at d x _ a h
  have gb : d[x.length + 1 + y.length]! = b := by
    have := get_at d (x ++ a :: y) z b (by rw [h]; simp)
    rw [show (x ++ a :: y).length = x.length + 1 + y.length by simp; omega] at this
    exact this
  unfold swp
  rw [ga, gb]
  rw [Array.toList_setIfInBounds, Array.toList_setIfInBounds, h]
  have e1 : (x ++ a :: (y ++ b :: z)).set x.length b = x ++ b :: (y ++ b :: z) := by
    rw [List.set_append_right _ _ (Nat.le_refl _), Nat.sub_self, List.set_cons_zero]
  have e2 : (x ++ b :: (y ++ b :: z)).set (x.length + 1 + y.length) a = x ++ b :: (y ++ a :: z) := by
    rw [List.set_append_right _ _ (by omega), show x.length + 1 + y.length - x.length = y.length + 1 by omega, List.set_cons_succ, List.set_append_right _ _ (Nat.le_refl _), Nat.sub_self, List.set_cons_zero]
  rw [e1, e2]
theorem swpR_list : ∀ (m i a b : Nat) (d : Array α) (x A y B z : List α), d.toList = x ++ (A ++ (y ++ (B ++ z))) → x.length = a + i → A.length = m → B.length = m → x.length + m + y.length = b + i → (swpR a b i m d).toList = x ++ (B ++ (y ++ (A ++ z)))
  | 0, i, a, b, d, x, A, y, B, z, h, hx, hA, hB, hy => by
    have e1 := List.eq_nil_of_length_eq_zero hA
    have e2 := List.eq_nil_of_length_eq_zero hB
    subst e1; subst e2
    rw [swpR, h]
  | m + 1, i, a, b, d, x, A, y, B, z, h, hx, hA, hB, hy => by
    match A, hA, B, hB with
    | a0 :: A', hA, b0 :: B', hB =>
      have hA' : A'.length = m := by simpa using hA
      have hB' : B'.length = m := by simpa using hB
      have e := swp_list d x (A' ++ y) (B' ++ z) a0 b0 (by rw [h]; simp)
      have e2 : x.length + 1 + (A' ++ y).length = b + i := by rw [List.length_append, hA']; omega
      rw [e2, hx] at e
      rw [swpR, swpR_list m (i + 1) a b (swp d (a + i) (b + i)) (x ++ [b0]) A' (y ++ [a0]) B' z (by rw [e]; simp) (by simp; omega) hA' hB' (by simp; omega)]
      simp
/-- What a round of the turning leaves to be turned. -/
def Left (m : Nat) (t : List α) (i j : Nat) (dk : Array α) : Prop :=
  ∃ p u v q : List α, u.length = i ∧ v.length = j ∧ p.length + i = m ∧ dk.toList = p ++ (u ++ (v ++ q)) ∧ p ++ (v ++ (u ++ q)) = t
theorem left_great {m i j : Nat} {t : List α} {dk : Array α} (h : Left m t i j dk) (hij : j < i) : Left m t (i - j) j (swpR (m - i) m 0 j dk) := by
  obtain ⟨p, u, v, q, hu, hv, hp, hd, ht⟩ := h
  have e : u = u.take j ++ u.drop j := (List.take_append_drop j u).symm
  have l1 : (u.take j).length = j := by rw [List.length_take]; omega
  have l2 : (u.drop j).length = i - j := by rw [List.length_drop]; omega
  generalize u.take j = A at e l1
  generalize u.drop j = B at e l2
  subst e
  have s := swpR_list j 0 (m - i) m dk p A B v q (by rw [hd]; simp) (by omega) l1 hv (by omega)
  exact ⟨p ++ v, B, A, q, l2, l1, by rw [List.length_append]; omega, by rw [s]; simp, by rw [← ht]; simp⟩
theorem left_less {m i j : Nat} {t : List α} {dk : Array α} (h : Left m t i j dk) (hij : i < j) : Left m t i (j - i) (swpR (m - i) (m + j - i) 0 i dk) := by
  obtain ⟨p, u, v, q, hu, hv, hp, hd, ht⟩ := h
  have e : v = v.take (j - i) ++ v.drop (j - i) := (List.take_append_drop (j - i) v).symm
  have l1 : (v.take (j - i)).length = j - i := by rw [List.length_take]; omega
  have l2 : (v.drop (j - i)).length = i := by rw [List.length_drop]; omega
  generalize v.take (j - i) = C at e l1
  generalize v.drop (j - i) = D at e l2
  subst e
  have s := swpR_list i 0 (m - i) (m + j - i) dk p u C D q (by rw [hd]; simp) (by omega) hu l2 (by omega)
  exact ⟨p, D, C, u ++ q, l2, l1, by omega, by rw [s], by rw [← ht]; simp⟩
theorem left_same {m i : Nat} {t : List α} {dk : Array α} (h : Left m t i i dk) : (swpR (m - i) m 0 i dk).toList = t := by
  obtain ⟨p, u, v, q, hu, hv, hp, hd, ht⟩ := h
  have s := swpR_list i 0 (m - i) m dk p u [] v q (by rw [hd]; simp) (by omega) hu hv (by simp; omega)
  rw [s, ← ht]; simp
theorem swpR_size : ∀ (m i a b : Nat) (d : Array α), (swpR a b i m d).size = d.size
  | 0, _, _, _, _ => rfl
  | m + 1, i, a, b, d => by rw [swpR, swpR_size m, size_swp]
/-- 'p' is true up to some place, and false from there on. -/
def Mono (p : Nat → Bool) (lo hi : Nat) : Prop := ∀ q c, lo ≤ q → q ≤ c → c < hi → p c = true → p q = true
/-- What a binary search knows. -/
structure Bin (p : Nat → Bool) (lo hi i j : Nat) : Prop where
  mono : Mono p lo hi
  li : lo ≤ i
  ij : i ≤ j
  jh : j ≤ hi
  yes : ∀ q, lo ≤ q → q < i → p q = true
  no : ∀ q, j ≤ q → q < hi → p q = false
theorem Bin.start {p : Nat → Bool} {lo hi : Nat} (hm : Mono p lo hi) (h : lo ≤ hi) : Bin p lo hi lo hi :=
  ⟨hm, Nat.le_refl _, h, Nat.le_refl _, fun q h1 h2 => by omega, fun q h1 h2 => by omega⟩
theorem Bin.right {p : Nat → Bool} {lo hi i j c : Nat} (b : Bin p lo hi i j) (h1 : i ≤ c) (h2 : c < j) (hp : p c = true) : Bin p lo hi (c + 1) j :=
  ⟨b.mono, by have := b.li; omega, by omega, b.jh, fun q hq hc => b.mono q c hq (by omega) (by have := b.jh; omega) hp, b.no⟩
theorem Bin.left {p : Nat → Bool} {lo hi i j c : Nat} (b : Bin p lo hi i j) (h1 : i ≤ c) (h2 : c < j) (hp : p c = false) : Bin p lo hi i c :=
  ⟨b.mono, b.li, h1, by have := b.jh; omega, b.yes, fun q hq hh => by
    cases h : p q with
    | false => rfl
    | true => rw [b.mono c q (by have := b.li; omega) hq hh h] at hp; cases hp⟩
/-- x at place k is carried to the right, to the place ahead of i. -/
def MvR (T : List α) (i k : Nat) (dk : Array α) : Prop := ∃ (u v r : List α) (x : α), u.length = k ∧ v.length + k + 1 = i ∧ dk.toList = u ++ x :: (v ++ r) ∧ u ++ (v ++ x :: r) = T
theorem MvR.step {T : List α} {i k : Nat} {dk : Array α} (h : MvR T i k dk) (hk : k + 1 < i) : MvR T i (k + 1) (swp dk k (k + 1)) := by
  obtain ⟨u, v, r, x, hu, hv, hd, ht⟩ := h
  match v, hv with
  | [], hv => simp at hv; omega
  | y :: v, hv =>
    have s := swp_list dk u [] (v ++ r) x y (by rw [hd]; simp)
    rw [hu] at s
    exact ⟨u ++ [y], v, r, x, by simp [hu], by simp at hv; omega, by rw [show k + 1 = k + 1 + ([] : List α).length from rfl, s]; simp, by rw [← ht]; simp⟩
theorem MvR.done {T : List α} {i k : Nat} {dk : Array α} (h : MvR T i k dk) (hk : ¬ k + 1 < i) : dk.toList = T := by
  obtain ⟨u, v, r, x, hu, hv, hd, ht⟩ := h
  have : v = [] := List.eq_nil_of_length_eq_zero (by omega)
  subst this
  rw [hd, ← ht]; simp
theorem swp_list' (d : Array α) (x y z : List α) (a b : α) (h : d.toList = x ++ a :: (y ++ b :: z)) : (swp d (x.length + 1 + y.length) x.length).toList = x ++ b :: (y ++ a :: z) := by
  have ga := get_at d x _ a h
  have gb : d[x.length + 1 + y.length]! = b := by
    have := get_at d (x ++ a :: y) z b (by rw [h]; simp)
    rw [show (x ++ a :: y).length = x.length + 1 + y.length by simp; omega] at this
    exact this
  unfold swp
  rw [ga, gb]
  rw [Array.toList_setIfInBounds, Array.toList_setIfInBounds, h]
  have e2 : (x ++ a :: (y ++ b :: z)).set (x.length + 1 + y.length) a = x ++ a :: (y ++ a :: z) := by
    rw [List.set_append_right _ _ (by omega), show x.length + 1 + y.length - x.length = y.length + 1 by omega, List.set_cons_succ, List.set_append_right _ _ (Nat.le_refl _), Nat.sub_self, List.set_cons_zero]
  have e1 : (x ++ a :: (y ++ a :: z)).set x.length b = x ++ b :: (y ++ a :: z) := by
    rw [List.set_append_right _ _ (Nat.le_refl _), Nat.sub_self, List.set_cons_zero]
  rw [e2, e1]
/-- x at place k is carried to the left, to the place i. -/
def MvL (T : List α) (i k : Nat) (dk : Array α) : Prop := ∃ (u v r : List α) (x : α), u.length = i ∧ v.length + i = k ∧ dk.toList = u ++ (v ++ x :: r) ∧ u ++ x :: (v ++ r) = T
theorem MvL.step {T : List α} {i k : Nat} {dk : Array α} (h : MvL T i (k + 1) dk) (hk : i < k + 1) : MvL T i k (swp dk (k + 1) k) := by
  obtain ⟨u, v, r, x, hu, hv, hd, ht⟩ := h
  have hne : v ≠ [] := by intro e; subst e; simp at hv; omega
  have e : v = v.dropLast ++ [v.getLast hne] := (List.dropLast_concat_getLast hne).symm
  have hl : v.dropLast.length + i = k := by rw [List.length_dropLast]; omega
  generalize v.dropLast = v' at e hl
  generalize v.getLast hne = y at e
  subst e
  have s := swp_list' dk (u ++ v') [] r y x (by rw [hd]; simp)
  have e1 : (u ++ v').length = k := by rw [List.length_append]; omega
  rw [e1] at s
  exact ⟨u, v', y :: r, x, hu, hl, by rw [show k + 1 = k + 1 + ([] : List α).length from rfl, s]; simp, by rw [← ht]; simp⟩
theorem MvL.done {T : List α} {i k : Nat} {dk : Array α} (h : MvL T i k dk) (hk : ¬ i < k) : dk.toList = T := by
  obtain ⟨u, v, r, x, hu, hv, hd, ht⟩ := h
  have : v = [] := List.eq_nil_of_length_eq_zero (by omega)
  subst this
  rw [hd, ← ht]; simp
/-- Two sorted neighbours. -/
structure Two (lt : α → α → Bool) (a m b : Nat) (pre U V post : List α) (d : Array α) : Prop where
  list : d.toList = pre ++ (U ++ (V ++ post))
  la : pre.length = a
  lm : U.length + a = m
  lb : V.length + m = b
  su : Sorted lt U
  sv : Sorted lt V
section
variable {lt : α → α → Bool} {a m b : Nat} {pre U V post : List α} {d : Array α}
theorem Ord.irr (h : Stable.Ord lt) (x : α) : lt x x = false := by
  cases e : lt x x with
  | false => rfl
  | true => exact absurd (h.asym x x e) (by rw [e]; simp)
theorem get_list (d : Array α) (l : List α) (h : d.toList = l) (i : Nat) (hi : i < l.length) : d[i]! = l[i] := by
  subst h
  rw [getElem!_pos d i (by simpa using hi)]
  simp
theorem Two.getU (t : Two lt a m b pre U V post d) {q : Nat} (h1 : a ≤ q) (h2 : q < m) : ∃ h : q - a < U.length, d[q]! = U[q - a] := by
  have l1 := t.la; have l2 := t.lm
  have hq : q - a < U.length := by omega
  refine ⟨hq, ?_⟩
  rw [get_list d _ t.list q (by simp; omega), List.getElem_append_right (by omega), List.getElem_append_left (by omega)]
  congr 1; omega
theorem Two.getV (t : Two lt a m b pre U V post d) {q : Nat} (h1 : m ≤ q) (h2 : q < b) : ∃ h : q - m < V.length, d[q]! = V[q - m] := by
  have l1 := t.la; have l2 := t.lm; have l3 := t.lb
  have hq : q - m < V.length := by omega
  refine ⟨hq, ?_⟩
  rw [get_list d _ t.list q (by simp; omega), List.getElem_append_right (by omega), List.getElem_append_right (by omega), List.getElem_append_left (by omega)]
  congr 1; omega
theorem Two.incU (O : Stable.Ord lt) (t : Two lt a m b pre U V post d) {q c : Nat} (h1 : a ≤ q) (h2 : q ≤ c) (h3 : c < m) : lt d[c]! d[q]! = false := by
  obtain ⟨hq, eq⟩ := t.getU h1 (by omega)
  obtain ⟨hc, ec⟩ := t.getU (q := c) (by omega) h3
  rw [eq, ec]
  by_cases e : q = c
  · subst e; exact Ord.irr O _
  · exact t.su.getElem (by omega) hc
theorem Two.incV (O : Stable.Ord lt) (t : Two lt a m b pre U V post d) {q c : Nat} (h1 : m ≤ q) (h2 : q ≤ c) (h3 : c < b) : lt d[c]! d[q]! = false := by
  obtain ⟨hq, eq⟩ := t.getV h1 (by omega)
  obtain ⟨hc, ec⟩ := t.getV (q := c) (by omega) h3
  rw [eq, ec]
  by_cases e : q = c
  · subst e; exact Ord.irr O _
  · exact t.sv.getElem (by omega) hc
theorem Two.memU (t : Two lt a m b pre U V post d) {s : Nat} (h1 : a ≤ s) (h2 : s ≤ m) {x : α} (hx : x ∈ U.take (s - a)) : ∃ q, a ≤ q ∧ q < s ∧ d[q]! = x := by
  have l2 := t.lm
  obtain ⟨i, hi, rfl⟩ := List.getElem_of_mem hx
  rw [List.length_take] at hi
  obtain ⟨hq, eq⟩ := t.getU (q := a + i) (by omega) (by omega)
  refine ⟨a + i, by omega, by omega, ?_⟩
  rw [eq, List.getElem_take]
  congr 1; omega
theorem Two.memU' (t : Two lt a m b pre U V post d) {s : Nat} (h1 : a ≤ s) (h2 : s ≤ m) {x : α} (hx : x ∈ U.drop (s - a)) : ∃ q, s ≤ q ∧ q < m ∧ d[q]! = x := by
  have l2 := t.lm
  obtain ⟨i, hi, rfl⟩ := List.getElem_of_mem hx
  rw [List.length_drop] at hi
  obtain ⟨hq, eq⟩ := t.getU (q := s + i) (by omega) (by omega)
  refine ⟨s + i, by omega, by omega, ?_⟩
  rw [eq, List.getElem_drop]
  congr 1; omega
theorem Two.memV (t : Two lt a m b pre U V post d) {s : Nat} (h1 : m ≤ s) (h2 : s ≤ b) {x : α} (hx : x ∈ V.take (s - m)) : ∃ q, m ≤ q ∧ q < s ∧ d[q]! = x := by
  have l2 := t.lb
  obtain ⟨i, hi, rfl⟩ := List.getElem_of_mem hx
  rw [List.length_take] at hi
  obtain ⟨hq, eq⟩ := t.getV (q := m + i) (by omega) (by omega)
  refine ⟨m + i, by omega, by omega, ?_⟩
  rw [eq, List.getElem_take]
  congr 1; omega
theorem Two.memV' (t : Two lt a m b pre U V post d) {s : Nat} (h1 : m ≤ s) (h2 : s ≤ b) {x : α} (hx : x ∈ V.drop (s - m)) : ∃ q, s ≤ q ∧ q < b ∧ d[q]! = x := by
  have l2 := t.lb
  obtain ⟨i, hi, rfl⟩ := List.getElem_of_mem hx
  rw [List.length_drop] at hi
  obtain ⟨hq, eq⟩ := t.getV (q := s + i) (by omega) (by omega)
  refine ⟨s + i, by omega, by omega, ?_⟩
  rw [eq, List.getElem_drop]
  congr 1; omega
theorem Ord.lt_of (h : Stable.Ord lt) {x y z : α} (h1 : lt z x = true) (h2 : lt z y = false) : lt y x = true := by
  cases e : lt y x with
  | true => rfl
  | false => rw [h.skip z x y h1 e] at h2; cases h2
theorem Ord.lt_le (h : Stable.Ord lt) {x y z : α} (h1 : lt z x = true) (h2 : lt y x = false) : lt z y = true := h.skip z x y h1 h2
/-- (1) one on the left: the search among the right ones. -/
theorem Two.mono1 (O : Stable.Ord lt) (t : Two lt a m b pre U V post d) : Mono (fun q => lt d[q]! d[a]!) m b := fun q c h1 h2 h3 hp =>
  Ord.lt_of O hp (t.incV O h1 h2 h3)
theorem Two.one_left (O : Stable.Ord lt) (t : Two lt a m b pre U V post d) (h : m = a + 1) {i : Nat} (B : Bin (fun q => lt d[q]! d[a]!) m b i i) : MvR (pre ++ (merge lt U V ++ post)) i a d := by
  have l1 := t.la; have l2 := t.lm; have l3 := t.lb; have b1 := B.li; have b2 := B.jh
  obtain ⟨x, rfl⟩ : ∃ x, U = [x] := List.length_eq_one_iff.1 (by omega)
  obtain ⟨_, ex⟩ := t.getU (q := a) (Nat.le_refl _) (by omega)
  have ex : d[a]! = x := by rw [ex]; simp
  have e := one_merge (lt := lt) (V.take (i - m)) (V.drop (i - m)) x
    (fun y hy => by obtain ⟨q, q1, q2, rfl⟩ := t.memV (by omega) (by omega) hy; have := B.yes q q1 q2; rw [ex] at this; exact this)
    (fun y hy => by obtain ⟨q, q1, q2, rfl⟩ := t.memV' (by omega) (by omega) hy; have := B.no q q1 q2; rw [ex] at this; exact this)
  rw [List.take_append_drop] at e
  refine ⟨pre, V.take (i - m), V.drop (i - m) ++ post, x, l1, by rw [List.length_take]; omega, ?_, by rw [e]; simp⟩
  rw [t.list, ← List.append_assoc (V.take _), List.take_append_drop]; simp
/-- (2) one on the right: the search among the left ones. -/
theorem Two.mono2 (O : Stable.Ord lt) (t : Two lt a m b pre U V post d) : Mono (fun q => !lt d[m]! d[q]!) a m := fun q c h1 h2 h3 hp => by
  have hp : lt d[m]! d[c]! = false := by simpa using hp
  have := O.le_trans (t.incU O h1 h2 h3) hp
  simp [this]
theorem Two.one_right (O : Stable.Ord lt) (t : Two lt a m b pre U V post d) (h : b = m + 1) {i : Nat} (B : Bin (fun q => !lt d[m]! d[q]!) a m i i) : MvL (pre ++ (merge lt U V ++ post)) i m d := by
  have l1 := t.la; have l2 := t.lm; have l3 := t.lb; have b1 := B.li; have b2 := B.jh
  obtain ⟨x, rfl⟩ : ∃ x, V = [x] := List.length_eq_one_iff.1 (by omega)
  obtain ⟨_, ex⟩ := t.getV (q := m) (Nat.le_refl _) (by omega)
  have ex : d[m]! = x := by rw [ex]; simp
  have e := merge_one (lt := lt) (U.take (i - a)) (U.drop (i - a)) x
    (fun y hy => by obtain ⟨q, q1, q2, rfl⟩ := t.memU (by omega) (by omega) hy; have := B.yes q q1 q2; rw [ex] at this; simpa using this)
    (fun y hy => by obtain ⟨q, q1, q2, rfl⟩ := t.memU' (by omega) (by omega) hy; have := B.no q q1 q2; rw [ex] at this; simpa using this)
  rw [List.take_append_drop] at e
  refine ⟨pre ++ U.take (i - a), U.drop (i - a), post, x, by rw [List.length_append, List.length_take]; omega, by rw [List.length_drop]; omega, ?_, by rw [e]; simp⟩
  rw [t.list]
  simp only [List.append_assoc, List.cons_append, List.nil_append]
  rw [← List.append_assoc (List.take (i - a) U), List.take_append_drop]
/-- (3) parted in the middle. -/
theorem Two.mono3 (O : Stable.Ord lt) (t : Two lt a m b pre U V post d) {p lo hi : Nat} (h1 : a ≤ lo) (h2 : hi ≤ m) (h3 : ∀ c, lo ≤ c → c < hi → c ≤ p ∧ m ≤ p - c ∧ p - c < b) : Mono (fun c => !lt d[p - c]! d[c]!) lo hi := fun q c q1 q2 q3 hp => by
  have hp : lt d[p - c]! d[c]! = false := by simpa using hp
  have k1 := h3 c (by omega) q3
  have k2 := h3 q q1 (by omega)
  have e1 := t.incU O (q := q) (c := c) (by omega) q2 (by omega)
  have e2 := t.incV O (q := p - c) (c := p - q) (by omega) (by omega) (by omega)
  have := O.le_trans (O.le_trans e1 hp) e2
  simp [this]
/-- The bounds of the search, and what it must keep. -/
structure Mid (a m b mid lo hi : Nat) : Prop where
  am : a < m
  mb : m < b
  midd : mid = (a + b) / 2
  way : (m > mid ∧ lo + b = mid + m ∧ hi = mid) ∨ (m ≤ mid ∧ lo = a ∧ hi = m)
theorem Mid.facts {mid lo hi : Nat} (M : Mid a m b mid lo hi) : a ≤ lo ∧ lo ≤ hi ∧ hi ≤ m ∧ hi ≤ mid ∧ a < mid ∧ mid < b ∧ (∀ c, lo ≤ c → c < hi → c ≤ mid + m - 1 ∧ m ≤ mid + m - 1 - c ∧ mid + m - 1 - c < b) := by
  obtain ⟨h1, h2, h3, h4⟩ := M
  have k : 2 * mid ≤ a + b ∧ a + b ≤ 2 * mid + 1 := by omega
  clear h3
  rcases h4 with ⟨g1, g2, g3⟩ | ⟨g1, g2, g3⟩
  · refine ⟨by omega, by omega, by omega, by omega, by omega, by omega, fun c c1 c2 => ⟨by omega, by omega, by omega⟩⟩
  · refine ⟨by omega, by omega, by omega, by omega, by omega, by omega, fun c c1 c2 => ⟨by omega, by omega, by omega⟩⟩
theorem Two.parted (O : Stable.Ord lt) (t : Two lt a m b pre U V post d) {mid lo hi s : Nat} (M : Mid a m b mid lo hi) (B : Bin (fun c => !lt d[mid + m - 1 - c]! d[c]!) lo hi s s) :
    merge lt U V = merge lt (U.take (s - a)) (V.take (mid + m - s - m)) ++ merge lt (U.drop (s - a)) (V.drop (mid + m - s - m)) := by
  obtain ⟨f1, f2, f3, f4, f5, f6, f7⟩ := M.facts
  have b1 := B.li; have b2 := B.jh
  have w := M.way; have am := M.am; have mb := M.mb
  have eb : mid + m - s ≤ b := by
    rcases w with ⟨g1, g2, g3⟩ | ⟨g1, g2, g3⟩
    · omega
    · have := M.midd; omega
  have e := merge_split (lt := lt) (U.take (s - a)) (V.take (mid + m - s - m)) (U.drop (s - a)) (V.drop (mid + m - s - m)) ?_ ?_
  · rw [List.take_append_drop, List.take_append_drop] at e; exact e
  · intro x hx y hy
    obtain ⟨q, q1, q2, rfl⟩ := t.memU (by omega) (by omega) hx
    obtain ⟨r, r1, r2, rfl⟩ := t.memV' (by omega) eb hy
    have hs : lo < s := by
      rcases w with ⟨g1, g2, g3⟩ | ⟨g1, g2, g3⟩
      · omega
      · omega
    have hp := B.yes (s - 1) (by omega) (by omega)
    have hp : lt d[mid + m - 1 - (s - 1)]! d[s - 1]! = false := by simpa using hp
    rw [show mid + m - 1 - (s - 1) = mid + m - s by omega] at hp
    have e1 := t.incU O (q := q) (c := s - 1) (by omega) (by omega) (by omega)
    have e2 := t.incV O (q := mid + m - s) (c := r) (by omega) (by omega) (by omega)
    exact O.le_trans (O.le_trans e1 hp) e2
  · intro y hy x hx
    obtain ⟨q, q1, q2, rfl⟩ := t.memU' (by omega) (by omega) hx
    obtain ⟨r, r1, r2, rfl⟩ := t.memV (by omega) eb hy
    have hs : s < hi := by
      rcases w with ⟨g1, g2, g3⟩ | ⟨g1, g2, g3⟩
      · omega
      · omega
    have hp := B.no s (Nat.le_refl _) hs
    have hp : lt d[mid + m - 1 - s]! d[s]! = true := by simpa using hp
    have e1 := t.incU O (q := s) (c := q) (by omega) (by omega) (by omega)
    have e2 := t.incV O (q := r) (c := mid + m - 1 - s) (by omega) (by omega) (by omega)
    exact Ord.lt_of O (Ord.lt_le O hp e1) e2
end
/-- The list, when the middle has been turned; when the left half is one; when all is. -/
def St1 (U V pre post : List α) (a m s e n : Nat) (d : Array α) : Prop := d.toList = pre ++ (U.take (s - a) ++ (V.take (e - m) ++ (U.drop (s - a) ++ (V.drop (e - m) ++ post)))) ∧ d.size = n
def St2 (lt : α → α → Bool) (U V pre post : List α) (a m s e n : Nat) (d : Array α) : Prop := d.toList = (pre ++ merge lt (U.take (s - a)) (V.take (e - m))) ++ (U.drop (s - a) ++ (V.drop (e - m) ++ post)) ∧ d.size = n
def St3 (lt : α → α → Bool) (U V pre post : List α) (n : Nat) (d : Array α) : Prop := d.toList = pre ++ (merge lt U V ++ post) ∧ d.size = n
/-- Two sorted neighbours, and where they are parted. -/
structure Parts (lt : α → α → Bool) (a m b mid s e : Nat) (U V : List α) : Prop where
  sa : a ≤ s
  sm : s ≤ m
  smid : s ≤ mid
  me : m ≤ e
  eb : e ≤ b
  mide : mid ≤ e
  ee : e + s = mid + m
  lu : U.length + a = m
  lv : V.length + m = b
  su : Sorted lt U
  sv : Sorted lt V
  par : merge lt U V = merge lt (U.take (s - a)) (V.take (e - m)) ++ merge lt (U.drop (s - a)) (V.drop (e - m))
section
variable {lt : α → α → Bool} {a m b mid s e n : Nat} {pre U V post : List α} {d : Array α}
theorem Two.parts (O : Stable.Ord lt) (t : Two lt a m b pre U V post d) {lo hi : Nat} (M : Mid a m b mid lo hi) (B : Bin (fun c => !lt d[mid + m - 1 - c]! d[c]!) lo hi s s) : Parts lt a m b mid s (mid + m - s) U V := by
  obtain ⟨f1, f2, f3, f4, f5, f6, f7⟩ := M.facts
  have b1 := B.li; have b2 := B.jh
  have eb : mid + m - s ≤ b := by
    rcases M.way with ⟨g1, g2, g3⟩ | ⟨g1, g2, g3⟩
    · omega
    · have := M.midd; omega
  exact ⟨by omega, by omega, by omega, by omega, eb, by omega, by omega, t.lm, t.lb, t.su, t.sv, t.parted O M B⟩
theorem Parts.l1 (p : Parts lt a m b mid s e U V) : (U.take (s - a)).length = s - a ∧ (U.drop (s - a)).length = m - s ∧ (V.take (e - m)).length = e - m ∧ (V.drop (e - m)).length = b - e := by
  have h1 := p.sa; have h2 := p.sm; have h3 := p.me; have h4 := p.eb; have h5 := p.lu; have h6 := p.lv
  refine ⟨by rw [List.length_take]; omega, by rw [List.length_drop]; omega, by rw [List.length_take]; omega, by rw [List.length_drop]; omega⟩
theorem Parts.whole (p : Parts lt a m b mid s e U V) (h : d.toList = pre ++ (U ++ (V ++ post))) : d.toList = pre ++ (U.take (s - a) ++ (U.drop (s - a) ++ (V.take (e - m) ++ (V.drop (e - m) ++ post)))) := by
  rw [h, ← List.append_assoc (V.take _), List.take_append_drop, ← List.append_assoc (U.take _), List.take_append_drop]
theorem Parts.left (p : Parts lt a m b mid s e U V) (hp : pre.length = a) (h : d.toList = pre ++ (U ++ (V ++ post))) : Left m (pre ++ (U.take (s - a) ++ (V.take (e - m) ++ (U.drop (s - a) ++ (V.drop (e - m) ++ post))))) (m - s) (e - m) d := by
  obtain ⟨l1, l2, l3, l4⟩ := p.l1
  have h1 := p.sa; have h2 := p.sm
  refine ⟨pre ++ U.take (s - a), U.drop (s - a), V.take (e - m), V.drop (e - m) ++ post, l2, l3, by rw [List.length_append, l1]; omega, by rw [p.whole h]; simp, by simp⟩
theorem Parts.st1_none (p : Parts lt a m b mid s e U V) (h : d.toList = pre ++ (U ++ (V ++ post))) (hn : d.size = n) (hz : ¬ (s < m ∧ m < e)) : St1 U V pre post a m s e n d := by
  obtain ⟨l1, l2, l3, l4⟩ := p.l1
  have h1 := p.sm; have h2 := p.me
  refine ⟨?_, hn⟩
  rw [p.whole h]
  by_cases hs : s < m
  · have : V.take (e - m) = [] := List.eq_nil_of_length_eq_zero (by omega)
    rw [this]; simp
  · have : U.drop (s - a) = [] := List.eq_nil_of_length_eq_zero (by omega)
    rw [this]; simp
theorem St1.two (h : St1 U V pre post a m s e n d) (p : Parts lt a m b mid s e U V) (hp : pre.length = a) : Two lt a s mid pre (U.take (s - a)) (V.take (e - m)) (U.drop (s - a) ++ (V.drop (e - m) ++ post)) d := by
  obtain ⟨l1, l2, l3, l4⟩ := p.l1
  have h1 := p.sa; have h2 := p.sm; have h3 := p.me; have h4 := p.ee
  exact ⟨h.1, hp, by omega, by omega, p.su.sublist (List.take_sublist _ _), p.sv.sublist (List.take_sublist _ _)⟩
theorem St1.none (h : St1 U V pre post a m s e n d) (p : Parts lt a m b mid s e U V) (hz : ¬ (a < s ∧ s < mid)) : St2 lt U V pre post a m s e n d := by
  obtain ⟨l1, l2, l3, l4⟩ := p.l1
  have h1 := p.sa; have h2 := p.sm; have h3 := p.me; have h4 := p.ee; have h5 := p.smid
  refine ⟨?_, h.2⟩
  rw [h.1]
  by_cases hs : a < s
  · have : V.take (e - m) = [] := List.eq_nil_of_length_eq_zero (by omega)
    rw [this, merge_nil]; simp
  · have : U.take (s - a) = [] := List.eq_nil_of_length_eq_zero (by omega)
    rw [this, nil_merge]; simp
theorem St2.two (h : St2 lt U V pre post a m s e n d) (p : Parts lt a m b mid s e U V) (hp : pre.length = a) : Two lt mid e b (pre ++ merge lt (U.take (s - a)) (V.take (e - m))) (U.drop (s - a)) (V.drop (e - m)) post d := by
  obtain ⟨l1, l2, l3, l4⟩ := p.l1
  have h1 := p.sa; have h2 := p.sm; have h3 := p.me; have h4 := p.ee; have h5 := p.eb
  exact ⟨h.1, by rw [List.length_append, merge_length]; omega, by omega, by omega, p.su.sublist (List.drop_sublist _ _), p.sv.sublist (List.drop_sublist _ _)⟩
theorem St2.none (h : St2 lt U V pre post a m s e n d) (p : Parts lt a m b mid s e U V) (hz : ¬ (mid < e ∧ e < b)) : St3 lt U V pre post n d := by
  obtain ⟨l1, l2, l3, l4⟩ := p.l1
  have h1 := p.sa; have h2 := p.sm; have h3 := p.me; have h4 := p.ee; have h5 := p.smid; have h6 := p.eb; have h7 := p.mide
  refine ⟨?_, h.2⟩
  rw [h.1, p.par]
  by_cases hs : mid < e
  · have : V.drop (e - m) = [] := List.eq_nil_of_length_eq_zero (by omega)
    rw [this, merge_nil]; simp
  · have : U.drop (s - a) = [] := List.eq_nil_of_length_eq_zero (by omega)
    rw [this, nil_merge]; simp
theorem St3.of (p : Parts lt a m b mid s e U V) (h : d.toList = (pre ++ merge lt (U.take (s - a)) (V.take (e - m))) ++ (merge lt (U.drop (s - a)) (V.drop (e - m)) ++ post)) (hn : d.size = n) : St3 lt U V pre post n d :=
  ⟨by rw [h, p.par]; simp, hn⟩
theorem St2.of (h : d.toList = pre ++ (merge lt (U.take (s - a)) (V.take (e - m)) ++ (U.drop (s - a) ++ (V.drop (e - m) ++ post)))) (hn : d.size = n) : St2 lt U V pre post a m s e n d :=
  ⟨by rw [h]; simp, hn⟩
end
end
section
variable {α : Type} [Inhabited α] {lt : α → α → Bool}
theorem isort_one (x : α) : isort lt [x] = [x] := by
  rw [isort, List.foldl_cons, List.foldl_nil, nil_merge]
theorem isort_nil : isort lt ([] : List α) = [] := rfl
/-- x at place j, S's begin ahead of it, S's end, all greater, behind it. -/
def Ins (lt : α → α → Bool) (pre S rest : List α) (x : α) (a j : Nat) (dj : Array α) : Prop :=
  ∃ S1 S2 : List α, S = S1 ++ S2 ∧ S1.length + a = j ∧ (∀ e ∈ S2, lt x e = true) ∧ dj.toList = pre ++ (S1 ++ x :: (S2 ++ rest))
theorem Ins.start {pre S rest : List α} {x : α} {a i : Nat} {d : Array α} (h : d.toList = pre ++ (S ++ x :: rest)) (hl : S.length + a = i) : Ins lt pre S rest x a i d :=
  ⟨S, [], by simp, hl, by simp, by rw [h]; simp⟩
theorem Ins.cur {pre S rest : List α} {x : α} {a j : Nat} {dj : Array α} (h : Ins lt pre S rest x a j dj) (hp : pre.length = a) : dj[j]! = x := by
  obtain ⟨S1, S2, hS, hl, hg, hd⟩ := h
  have := get_at dj (pre ++ S1) (S2 ++ rest) x (by rw [hd]; simp)
  rw [show (pre ++ S1).length = j by rw [List.length_append]; omega] at this
  exact this
theorem Ins.step {pre S rest : List α} {x : α} {a j : Nat} {dj : Array α} (h : Ins lt pre S rest x a (j + 1) dj) (hp : pre.length = a) (hj : a < j + 1) (hlt : lt dj[j + 1]! dj[j]! = true) : Ins lt pre S rest x a j (swp dj (j + 1) j) := by
  have hc := h.cur hp
  obtain ⟨S1, S2, hS, hl, hg, hd⟩ := h
  have hne : S1 ≠ [] := by intro e; subst e; simp at hl; omega
  have e : S1 = S1.dropLast ++ [S1.getLast hne] := (List.dropLast_concat_getLast hne).symm
  have hl' : S1.dropLast.length + a = j := by rw [List.length_dropLast]; omega
  generalize S1.dropLast = S1' at e hl'
  generalize S1.getLast hne = y at e
  subst e
  have hy : dj[j]! = y := by
    have := get_at dj (pre ++ S1') (x :: (S2 ++ rest)) y (by rw [hd]; simp)
    rw [show (pre ++ S1').length = j by rw [List.length_append]; omega] at this
    exact this
  rw [hc, hy] at hlt
  have s := swp_list' dj (pre ++ S1') [] (S2 ++ rest) y x (by rw [hd]; simp)
  rw [show (pre ++ S1').length = j by rw [List.length_append]; omega] at s
  refine ⟨S1', y :: S2, by rw [hS]; simp, hl', ?_, by rw [show j + 1 = j + 1 + ([] : List α).length from rfl, s]; simp⟩
  intro e he
  rcases List.mem_cons.1 he with rfl | he
  · exact hlt
  · exact hg e he
theorem Ins.done (O : Stable.Ord lt) {pre S rest : List α} {x : α} {a j : Nat} {dj : Array α} (h : Ins lt pre S rest x a j dj) (hp : pre.length = a) (hs : Sorted lt S) (hstop : j ≤ a ∨ lt dj[j]! dj[j - 1]! = false) : dj.toList = pre ++ (merge lt S [x] ++ rest) := by
  have hc := h.cur hp
  obtain ⟨S1, S2, hS, hl, hg, hd⟩ := h
  have h1 : ∀ e ∈ S1, lt x e = false := by
    intro e he
    rcases hstop with hstop | hstop
    · have : S1 = [] := List.eq_nil_of_length_eq_zero (by omega)
      subst this; cases he
    · have hne : S1 ≠ [] := by intro e; subst e; cases he
      have e1 : S1 = S1.dropLast ++ [S1.getLast hne] := (List.dropLast_concat_getLast hne).symm
      have hl' : S1.dropLast.length + a + 1 = j := by rw [List.length_dropLast]; have := List.length_pos_iff.2 hne; omega
      generalize S1.dropLast = S1' at e1 hl'
      generalize S1.getLast hne = y at e1
      subst e1
      have hy : dj[j - 1]! = y := by
        have := get_at dj (pre ++ S1') (x :: (S2 ++ rest)) y (by rw [hd]; simp)
        rw [show (pre ++ S1').length = j - 1 by rw [List.length_append]; omega] at this
        exact this
      rw [hc, hy] at hstop
      rcases List.mem_append.1 he with he | he
      · subst hS
        have hs' : Sorted lt (S1' ++ [y]) := (List.pairwise_append.1 hs).1
        have := (List.pairwise_append.1 hs').2.2 e he y List.mem_cons_self
        exact O.le_trans this hstop
      · rw [List.mem_singleton] at he; subst he; exact hstop
  rw [hd, hS, merge_one S1 S2 x h1 hg]; simp
/-- What the outer loop has done. -/
def Outer (lt : α → α → Bool) (pre seg post : List α) (a i : Nat) (d : Array α) : Prop := d.toList = pre ++ (isort lt (seg.take (i - a)) ++ (seg.drop (i - a) ++ post))
theorem Outer.start {pre seg post : List α} {a : Nat} {d : Array α} (h : d.toList = pre ++ (seg ++ post)) : Outer lt pre seg post a (a + 1) d := by
  unfold Outer
  rw [show a + 1 - a = 1 by omega, h]
  cases seg with
  | nil => rfl
  | cons x seg => simp [isort_one]
theorem Outer.next {pre seg post : List α} {a i : Nat} {d : Array α} (h : Outer lt pre seg post a i d) (hi : a < i) (hb : i < seg.length + a) : ∃ x, Ins lt pre (isort lt (seg.take (i - a))) (seg.drop (i + 1 - a) ++ post) x a i d ∧ ∀ d' : Array α, d'.toList = pre ++ (merge lt (isort lt (seg.take (i - a))) [x] ++ (seg.drop (i + 1 - a) ++ post)) → Outer lt pre seg post a (i + 1) d' := by
  have hl : i - a < seg.length := by omega
  refine ⟨seg[i - a], Ins.start ?_ ?_, fun d' h' => ?_⟩
  · unfold Outer at h
    rw [h, List.drop_eq_getElem_cons hl, show i - a + 1 = i + 1 - a by omega]; simp
  · rw [isort_length, List.length_take]; omega
  · unfold Outer
    rw [h', ← isort_snoc, show i + 1 - a = i - a + 1 by omega, List.take_add_one, List.getElem?_eq_getElem hl]; rfl
theorem Outer.done {pre seg post : List α} {a i : Nat} {d : Array α} (h : Outer lt pre seg post a i d) (hb : ¬ i < seg.length + a) : d.toList = pre ++ (isort lt seg ++ post) := by
  unfold Outer at h
  rw [h, List.take_of_length_le (by omega), List.drop_of_length_le (by omega)]; simp
/-- Blocks of s elements (the last one of at most so many), each sorted. -/
inductive Blk (lt : α → α → Bool) (s : Nat) : List α → List α → Prop
  | last (l : List α) : l.length ≤ s → Blk lt s l (isort lt l)
  | cons (l1 l2 t2 : List α) : l1.length = s → Blk lt s l2 t2 → Blk lt s (l1 ++ l2) (isort lt l1 ++ t2)
theorem Blk.whole {s : Nat} {l t : List α} (h : Blk lt s l t) : l.length ≤ s → t = isort lt l := by
  induction h with
  | last l h => intro _; rfl
  | cons l1 l2 t2 h1 h2 ih =>
    intro h
    rw [List.length_append] at h
    have : l2 = [] := List.eq_nil_of_length_eq_zero (by omega)
    subst this
    rw [ih (by simp), isort_nil]; simp
theorem Blk.split {s : Nat} {l t : List α} (h : Blk lt s l t) (hl : s ≤ l.length) : ∃ l1 l2 t2, l = l1 ++ l2 ∧ l1.length = s ∧ t = isort lt l1 ++ t2 ∧ Blk lt s l2 t2 := by
  cases h with
  | last l h => exact ⟨l, [], [], by simp, by omega, by simp, Blk.last [] (by simp)⟩
  | cons l1 l2 t2 h1 h2 => exact ⟨l1, l2, t2, rfl, h1, rfl, h2⟩
theorem Blk.length {s : Nat} {l t : List α} (h : Blk lt s l t) : t.length = l.length := by
  induction h with
  | last l h => exact isort_length l
  | cons l1 l2 t2 h1 h2 ih => rw [List.length_append, List.length_append, isort_length, ih]
/-- The first pass: blocks that have been sorted, the rest as it was. -/
def Pass0 (lt : α → α → Bool) (s : Nat) (l : List α) (a : Nat) (d : Array α) : Prop := ∃ T lr : List α, d.toList = T ++ lr ∧ T.length = a ∧ lr.length + a = l.length ∧ ∀ t, Blk lt s lr t → Blk lt s l (T ++ t)
theorem Pass0.start (s : Nat) (d : Array α) : Pass0 lt s d.toList 0 d := ⟨[], d.toList, rfl, rfl, rfl, fun t h => h⟩
theorem Pass0.next {s a : Nat} {l : List α} {d : Array α} (h : Pass0 lt s l a d) (hb : a + s ≤ l.length) : ∃ pre seg post : List α, d.toList = pre ++ (seg ++ post) ∧ pre.length = a ∧ seg.length = s ∧ ∀ d' : Array α, d'.toList = pre ++ (isort lt seg ++ post) → Pass0 lt s l (a + s) d' := by
  obtain ⟨T, lr, hd, hT, hl, hc⟩ := h
  refine ⟨T, lr.take s, lr.drop s, by rw [hd, List.take_append_drop], hT, by rw [List.length_take]; omega, fun d' h' => ⟨T ++ isort lt (lr.take s), lr.drop s, by rw [h']; simp, by rw [List.length_append, isort_length, List.length_take]; omega, by rw [List.length_drop]; omega, fun t ht => ?_⟩⟩
  have := Blk.cons (lr.take s) (lr.drop s) t (by rw [List.length_take]; omega) ht
  rw [List.take_append_drop] at this
  rw [List.append_assoc]
  exact hc _ this
theorem Pass0.last {s a : Nat} {l : List α} {d : Array α} (h : Pass0 lt s l a d) (hb : ¬ a + s ≤ l.length) : ∃ pre seg : List α, d.toList = pre ++ (seg ++ []) ∧ pre.length = a ∧ seg.length + a = l.length ∧ ∀ d' : Array α, d'.toList = pre ++ (isort lt seg ++ []) → Blk lt s l d'.toList := by
  obtain ⟨T, lr, hd, hT, hl, hc⟩ := h
  refine ⟨T, lr, by rw [hd]; simp, hT, hl, fun d' h' => ?_⟩
  rw [h', List.append_nil]
  exact hc _ (Blk.last lr (by omega))
/-- A pass that joins neighbours: those that have been joined, the rest as it was. -/
def Pass (lt : α → α → Bool) (s : Nat) (l : List α) (a : Nat) (d : Array α) : Prop := ∃ T lr t : List α, d.toList = T ++ t ∧ T.length = a ∧ lr.length + a = l.length ∧ Blk lt s lr t ∧ ∀ t', Blk lt (2 * s) lr t' → Blk lt (2 * s) l (T ++ t')
theorem Pass.start {s : Nat} {l : List α} {d : Array α} (h : Blk lt s l d.toList) : Pass lt s l 0 d := ⟨[], l, d.toList, rfl, rfl, rfl, h, fun t h => h⟩
theorem Pass.next (O : Stable.Ord lt) {s a : Nat} {l : List α} {d : Array α} (h : Pass lt s l a d) (hb : a + 2 * s ≤ l.length) : ∃ pre U V post : List α, Two lt a (a + s) (a + 2 * s) pre U V post d ∧ ∀ d' : Array α, d'.toList = pre ++ (merge lt U V ++ post) → Pass lt s l (a + 2 * s) d' := by
  obtain ⟨T, lr, t, hd, hT, hl, hB, hc⟩ := h
  obtain ⟨l1, r1, t1, rfl, h1, rfl, hB1⟩ := hB.split (by omega)
  rw [List.length_append] at hl
  obtain ⟨l2, r2, t2, rfl, h2, rfl, hB2⟩ := hB1.split (by omega)
  rw [List.length_append] at hl
  refine ⟨T, isort lt l1, isort lt l2, t2, ⟨hd, hT, by rw [isort_length]; omega, by rw [isort_length]; omega, isort_sorted O l1, isort_sorted O l2⟩, fun d' h' => ⟨T ++ isort lt (l1 ++ l2), r2, t2, by rw [h', isort_append O]; simp, by rw [List.length_append, isort_length, List.length_append]; omega, by omega, hB2, fun t' ht' => ?_⟩⟩
  have := hc _ (by rw [← List.append_assoc]; exact Blk.cons (l1 ++ l2) r2 t' (by rw [List.length_append]; omega) ht')
  rwa [List.append_assoc]
theorem Pass.last (O : Stable.Ord lt) {s a : Nat} {l : List α} {d : Array α} (h : Pass lt s l a d) (hb : ¬ a + 2 * s ≤ l.length) (hm : a + s < l.length) : ∃ pre U V : List α, Two lt a (a + s) l.length pre U V [] d ∧ ∀ d' : Array α, d'.toList = pre ++ (merge lt U V ++ []) → Blk lt (2 * s) l d'.toList := by
  obtain ⟨T, lr, t, hd, hT, hl, hB, hc⟩ := h
  obtain ⟨l1, r1, t1, rfl, h1, rfl, hB1⟩ := hB.split (by omega)
  rw [List.length_append] at hl
  have e1 := hB1.whole (by omega)
  subst e1
  refine ⟨T, isort lt l1, isort lt r1, ⟨by rw [hd]; simp, hT, by rw [isort_length]; omega, by rw [isort_length]; omega, isort_sorted O l1, isort_sorted O r1⟩, fun d' h' => ?_⟩
  rw [h', List.append_nil, ← isort_append O]
  exact hc _ (Blk.last _ (by rw [List.length_append]; omega))
theorem Pass.none {s a : Nat} {l : List α} {d : Array α} (h : Pass lt s l a d) (hb : ¬ a + 2 * s ≤ l.length) (hm : ¬ a + s < l.length) : Blk lt (2 * s) l d.toList := by
  obtain ⟨T, lr, t, hd, hT, hl, hB, hc⟩ := h
  have e1 := hB.whole (by omega)
  rw [hd, e1]
  exact hc _ (Blk.last _ (by omega))
end
end Go.Proofs.YtcmiehddjgfjaaaGreat.St
namespace Go.Proofs.YtcmiehddjgfjaaaGreat.St.GSp
open Go.Proofs Go.Shelf Go.RowKit Go.Lib Go.Sort
/-- What the walks take of a program: its functions and types at these numbers. -/
structure StLays (P : Program) : Prop where
  mixed : P.follows .mixedOrders = true
  f30 : P.funcs[156]? = some Tryz.f156
  f33 : P.funcs[171]? = some Tryz.f171
  f34 : P.funcs[172]? = some Tryz.f172
  f36 : P.funcs[178]? = some Tryz.f178
  f37 : P.funcs[182]? = some Tryz.f182
  e33 : ∀ args w, (callFunc 171 args).run P w = .ok (.enter 171 args) w
  e34 : ∀ args w, (callFunc 172 args).run P w = .ok (.enter 172 args) w
  e36 : ∀ args w, (callFunc 178 args).run P w = .ok (.enter 178 args) w
  e37 : ∀ args w, (callFunc 182 args).run P w = .ok (.enter 182 args) w
  t3 : P.underlying 3 = some (TypeDesc.int IntKind.i64)
  a3 : ∀ w, (isAgg 3).run P w = .ok false w
  z3 : ∀ w, (Go.sizeOf 3).run P w = .ok 1 w
  v3 : ∀ w, (zeroValue 3).run P w = .ok (Value.int IntKind.i64 0) w
  t4 : P.underlying 4 = some (TypeDesc.bool)
  a4 : ∀ w, (isAgg 4).run P w = .ok false w
  z4 : ∀ w, (Go.sizeOf 4).run P w = .ok 1 w
  v4 : ∀ w, (zeroValue 4).run P w = .ok (Value.bool false) w
  t53 : P.underlying 141 = some (TypeDesc.int IntKind.u64)
  a53 : ∀ w, (isAgg 141).run P w = .ok false w
  z53 : ∀ w, (Go.sizeOf 141).run P w = .ok 1 w
  t22 : P.underlying 22 = some (TypeDesc.slice 39)
  a22 : ∀ w, (isAgg 22).run P w = .ok false w
  z22 : ∀ w, (Go.sizeOf 22).run P w = .ok 1 w
  t45 : P.underlying 99 = some (TypeDesc.func #[39, 39] #[3] false)
  a45 : ∀ w, (isAgg 99).run P w = .ok false w
  z45 : ∀ w, (Go.sizeOf 99).run P w = .ok 1 w
variable {P : Program} {α : Type} [Inhabited α]
theorem swapRange_w (L : StLays P) (k : Nat) (aE : ∀ w, (isAgg 39).run P w = .ok true w) (zE : ∀ w, (Go.sizeOf 39).run P w = .ok k w) (enc : α → List Value) (g : Nat) (cb : Array Value) (blk off cap a b n : Nat) (d0 d : Array α) (w0 w : World)
    (R : RowK enc k w0 blk off d0) (hs : d0.size = d.size) (S : SB enc k w0 blk off d w) (ha : a + n ≤ d.size) (hb : b + n ≤ d.size) (hsz : d.size < 4611686018427387904) :
    Calls P 182 #[.slice (some ⟨blk, off, none⟩) d.size cap, .int .i64 a, .int .i64 b, .int .i64 n, .func (.func g) #[] cb] w fun e w' => e = .returned (.tuple #[]) ∧ SB enc k w0 blk off (swpR a b 0 n d) w' := by
  have mixed := L.mixed; have t3 := L.t3; have a3 := L.a3; have z3 := L.z3; have v3 := L.v3; have t4 := L.t4; have a4 := L.a4; have z4 := L.z4; have v4 := L.v4; have t22 := L.t22; have a22 := L.a22; have z22 := L.z22
  have FG := L.f37
  have S0 : Aside (SB enc k w0 blk off d w) := S
  clear S
  go_enter FG, Tryz.ntmps182
  go_wp2_with fail
  go_loopg [10] n (fun kx s10 wr => ∃ (i : Nat) (dk : Array α), s10 = .int .i64 i ∧ i ≤ n ∧ kx = n - i ∧ dk.size = d.size ∧ Aside (SB enc k w0 blk off dk wr) ∧ swpR a b i (n - i) dk = swpR a b 0 n d)
  case atStart => exact ⟨0, d, rfl, Nat.zero_le _, rfl, rfl, S0, rfl⟩
  case round =>
    clear S0
    obtain ⟨i, dk, rfl, hin, hkx, hds, S1, heq⟩ := hrel
    by_cases hlt : i < n
    · have hltz : (i : Int) < (n : Int) := by omega
      go_wp2_with fail
      have eA : ((a : Int) + (i : Int)).toNat = a + i := by omega
      have pA : (0 : Int) ≤ (a : Int) + (i : Int) := by omega
      have bA : (a : Int) + (i : Int) < (d.size : Int) := by omega
      have rA : IntKind.i64.wrap ((a : Int) + (i : Int)) = (a : Int) + (i : Int) := by rw [IntKind.wrap_i64]; omega
      have eB : ((b : Int) + (i : Int)).toNat = b + i := by omega
      have pB : (0 : Int) ≤ (b : Int) + (i : Int) := by omega
      have bB : (b : Int) + (i : Int) < (d.size : Int) := by omega
      have rB : IntKind.i64.wrap ((b : Int) + (i : Int)) = (b : Int) + (i : Int) := by rw [IntKind.wrap_i64]; omega
      have S2 : Aside (SB enc k w0 blk off (swp dk (a + i) (b + i)) ((wr.drew.setCells blk (off + (a + i) * k) (enc dk[b + i]!)).setCells blk (off + (b + i) * k) (enc dk[a + i]!))) := S1.out.swapped R (a + i) (b + i) (by omega) (by omega)
      have la := S1.out.ld1 R (by omega) P (a + i) (by omega)
      have lb := S1.out.ld1 R (by omega) P (b + i) (by omega)
      have sa := S1.out.st1 R (by omega) P (a + i) (by omega) dk[b + i]!
      have sb := S1.out.st2 R (by omega) P (a + i) (b + i) (by omega) (by omega) dk[b + i]! dk[a + i]!
      have na : (enc dk[a + i]!).length = k := R.hk _
      have nb : (enc dk[b + i]!).length = k := R.hk _
      generalize enc dk[a + i]! = cI at S2 la sb na
      generalize enc dk[b + i]! = cJ at S2 lb sa sb nb
      clear S1
      go_wp2_with fail
      go_big_region_o
      clear la lb sa sb
      generalize (wr.drew.setCells blk (off + (a + i) * k) cJ).setCells blk (off + (b + i) * k) cI = w2 at S2 ⊢
      go_wp2
      go_roundg (n - (i + 1))
      case measure => omega
      case rel =>
        rw [show n - i = n - (i + 1) + 1 by omega, swpR] at heq
        exact ⟨i + 1, swp dk (a + i) (b + i), by go_num, by omega, rfl, by rw [size_swp]; exact hds, S2, heq⟩
    · have hi : i = n := by omega
      subst hi
      go_wp2
      go_end0
      refine ⟨rfl, ?_⟩
      rw [Nat.sub_self, swpR] at heq
      rw [← heq]
      exact S1.out
variable {P : Program} {α : Type} [Inhabited α]
theorem rotate_w (L : StLays P) (k : Nat) (aE : ∀ w, (isAgg 39).run P w = .ok true w) (zE : ∀ w, (Go.sizeOf 39).run P w = .ok k w) (enc : α → List Value) (g : Nat) (cb : Array Value) (blk off cap a m b : Nat) (d0 d : Array α) (w0 w : World)
    (R : RowK enc k w0 blk off d0) (hs : d0.size = d.size) (S : SB enc k w0 blk off d w) (ham : a < m) (hmb : m < b) (hb : b ≤ d.size) (hsz : d.size < 4611686018427387904) (t : List α) (ht : Left m t (m - a) (b - m) d) :
    Calls P 178 #[.slice (some ⟨blk, off, none⟩) d.size cap, .int .i64 a, .int .i64 m, .int .i64 b, .func (.func g) #[] cb] w fun e w' => e = .returned (.tuple #[]) ∧ ∃ d', d'.toList = t ∧ d'.size = d.size ∧ SB enc k w0 blk off d' w' := by
  have mixed := L.mixed; have t3 := L.t3; have a3 := L.a3; have z3 := L.z3; have v3 := L.v3; have t4 := L.t4; have a4 := L.a4; have z4 := L.z4; have v4 := L.v4; have t22 := L.t22; have a22 := L.a22; have z22 := L.z22
  have FG := L.f36
  have e37 := L.e37
  have S0 : Aside (SB enc k w0 blk off d w) := S
  have HT : Aside (Left m t (m - a) (b - m) d) := ht
  have LL : Aside (StLays P) := L
  clear S ht L
  have c1 : ((m - a : Nat) : Int) = (m : Int) - (a : Int) := by omega
  have c2 : ((b - m : Nat) : Int) = (b : Int) - (m : Int) := by omega
  have C1 := aside (c1)
  have C2 := aside (c2)
  clear c1 c2
  go_enter FG, Tryz.ntmps178
  go_wp2_with fail
  go_loopg [10, 11] (b - a) (fun kx s10 s11 wr => ∃ (i j : Nat) (dk : Array α), s10 = .int .i64 i ∧ s11 = .int .i64 j ∧ 0 < i ∧ 0 < j ∧ kx = i + j ∧ i ≤ m ∧ m + j ≤ d.size ∧ dk.size = d.size ∧ Aside (SB enc k w0 blk off dk wr) ∧ Aside (Left m t i j dk))
  case atStart => exact ⟨m - a, b - m, d, by rw [C1.out], by rw [C2.out], by omega, by omega, by omega, by omega, by omega, rfl, S0, HT⟩
  case round =>
    clear S0 HT
    obtain ⟨i, j, dk, rfl, rfl, hi, hj, hkx, him, hmj, hds, S1, HL⟩ := hrel
    have call : ∀ (x y n : Nat), x + n ≤ d.size → y + n ≤ d.size → Calls P 182 #[.slice (some ⟨blk, off, none⟩) d.size cap, .int .i64 x, .int .i64 y, .int .i64 n, .func (.func g) #[] cb] wr fun e w' => e = .returned (.tuple #[]) ∧ SB enc k w0 blk off (swpR x y 0 n dk) w' := by
      intro x y n hx hy
      rw [← hds]
      exact swapRange_w LL.out k aE zE enc g cb blk off cap x y n d0 dk w0 wr R (by omega) S1.out (by omega) (by omega) (by omega)
    have CALL := aside (call)
    clear call
    by_cases he : i = j
    · subst he
      have c3 : ((m : Int) - (i : Int)) = ((m - i : Nat) : Int) := by omega
      have hc := CALL.out (m - i) m i (by omega) (by omega)
      have HL2 := aside (left_same HL.out)
      clear CALL HL
      go_wp2_with (go_at_fn 182; refine hc.mono ?_; rintro e w1 ⟨rfl, hw1⟩)
      go_end0
      exact ⟨rfl, _, HL2.out, by rw [swpR_size]; exact hds, hw1⟩
    · by_cases hg : j < i
      · have c3 : ((m : Int) - (i : Int)) = ((m - i : Nat) : Int) := by omega
        have hc := CALL.out (m - i) m j (by omega) (by omega)
        have HL2 := aside (left_great HL.out hg)
        clear CALL HL
        go_wp2_with (go_at_fn 182; refine hc.mono ?_; rintro e w1 ⟨rfl, hw1⟩)
        have S2 := aside (hw1)
        clear hw1 hc
        go_roundg (i - j + j)
        case measure => omega
        case rel => exact ⟨i - j, j, _, by go_num, rfl, by omega, by omega, rfl, by omega, by omega, by rw [swpR_size]; exact hds, S2, HL2⟩
      · have c3 : ((m : Int) - (i : Int)) = ((m - i : Nat) : Int) := by omega
        have c4 : ((m : Int) + (j : Int) - (i : Int)) = ((m + j - i : Nat) : Int) := by omega
        have hc := CALL.out (m - i) (m + j - i) i (by omega) (by omega)
        have HL2 := aside (left_less HL.out (by omega))
        clear CALL HL
        go_wp2_with (go_at_fn 182; refine hc.mono ?_; rintro e w1 ⟨rfl, hw1⟩)
        have S2 := aside (hw1)
        clear hw1 hc
        go_roundg (i + (j - i))
        case measure => omega
        case rel => exact ⟨i, j - i, _, rfl, by go_num, by omega, by omega, rfl, by omega, by omega, by rw [swpR_size]; exact hds, S2, HL2⟩
open Go.Proofs.YtcmiehddjgfjaaaGreat.Stable
variable {P : Program} {α : Type} [Inhabited α]
theorem half_nat (i j : Nat) (hj : j < 4611686018427387904) (h : i < j) : ∃ h : Nat, ((i : Int) + (j : Int)) / 2 = (h : Int) ∧ i ≤ h ∧ h < j := ⟨(i + j) / 2, by omega, by omega, by omega⟩
theorem symLeft_w (L : StLays P) (k : Nat) (aE : ∀ w, (isAgg 39).run P w = .ok true w) (zE : ∀ w, (Go.sizeOf 39).run P w = .ok k w) (enc : α → List Value) (cf : α → α → Int) (g : Nat) (cb : Array Value) (eg : ∀ args w, (callFunc g args).run P w = .ok (.enter g args) w)
    (blk off cap a m b : Nat) (d0 d : Array α) (w0 w : World)
    (R : RowK enc k w0 blk off d0) (hs : d0.size = d.size) (hC : CmpB P g cb enc k cf blk off d.size w0) (O : Stable.Ord (ltOf cf)) (S : SB enc k w0 blk off d w) (hm : m = a + 1) (hmb : m < b) (hb : b ≤ d.size) (hsz : d.size < 4611686018427387904)
    (pre U V post : List α) (T : Two (ltOf cf) a m b pre U V post d) :
    Calls P 172 #[.slice (some ⟨blk, off, none⟩) d.size cap, .int .i64 a, .int .i64 m, .int .i64 b, .func (.func g) #[] cb] w fun e w' => e = .returned (.tuple #[]) ∧ ∃ d', d'.toList = pre ++ (merge (ltOf cf) U V ++ post) ∧ d'.size = d.size ∧ SB enc k w0 blk off d' w' := by
  have mixed := L.mixed; have t3 := L.t3; have a3 := L.a3; have z3 := L.z3; have v3 := L.v3; have t4 := L.t4; have a4 := L.a4; have z4 := L.z4; have v4 := L.v4; have t53 := L.t53; have a53 := L.a53; have z53 := L.z53; have t22 := L.t22; have a22 := L.a22; have z22 := L.z22; have t45 := L.t45
  have FG := L.f34
  have S0 : Aside (SB enc k w0 blk off d w) := S
  have HC : Aside (CmpB P g cb enc k cf blk off d.size w0) := hC
  have HT : Aside (Two (ltOf cf) a m b pre U V post d) := T
  have HO : Aside (Stable.Ord (ltOf cf)) := O
  have B0 : Aside (Bin (fun q => ltOf cf d[q]! d[a]!) m b m b) := Bin.start (T.mono1 O) (by omega)
  have HM : Aside (m = a + 1) := hm
  have am : a < m := by omega
  have tm : ((m : Int) - (a : Int) == 1) = true := by rw [beq_iff_eq]; omega
  have RR : Aside (RowK enc k w0 blk off d0) := R
  have HS : Aside (d0.size = d.size) := hs
  clear S hC T O hm L hs R
  go_enter FG, Tryz.ntmps172
  go_wp2_with fail
  go_loopg [10, 11] b (fun kx s10 s11 wr => ∃ (i j : Nat), s10 = .int .i64 i ∧ s11 = .int .i64 j ∧ m ≤ i ∧ i ≤ j ∧ j ≤ b ∧ Aside (kx = j - i + m) ∧ Aside (SB enc k w0 blk off d wr) ∧ Aside (Bin (fun q => ltOf cf d[q]! d[a]!) m b i j))
  case atStart => exact ⟨m, b, rfl, rfl, Nat.le_refl _, by omega, Nat.le_refl _, (show _ = _ by omega), S0, B0⟩
  case round =>
    clear S0 B0
    obtain ⟨i, j, rfl, rfl, hmi, hij, hjb, HK, S1, HB⟩ := hrel
    by_cases hlt : i < j
    · have hltz : (i : Int) < (j : Int) := by omega
      obtain ⟨h, hh, hih, hhj⟩ := half_nat i j (by omega) hlt
      have pH : (0 : Int) ≤ (h : Int) := by omega
      have bH : (h : Int) < (d.size : Int) := by omega
      have bA : (a : Int) < (d.size : Int) := by omega
      have lh : ∀ p : SBW enc k w0 blk off d, Sem.run P (loadCellsFrom ⟨blk, off + h * k, none⟩ 0 k #[]) p.w = .ok (enc d[h]!).toArray p.w := fun p => p.h.load RR.out HS.out.symm P h (by omega)
      have la : ∀ p : SBW enc k w0 blk off d, Sem.run P (loadCellsFrom ⟨blk, off + a * k, none⟩ 0 k #[]) p.w = .ok (enc d[a]!).toArray p.w := fun p => p.h.load RR.out HS.out.symm P a (by omega)
      have hcg : ∀ p : SBW enc k w0 blk off d, Calls P g (#[.agg (enc d[h]!).toArray, .agg (enc d[a]!).toArray] ++ cb) p.w fun e w' => e = .returned (.int .i64 (cf d[h]! d[a]!)) ∧ ∃ q : SBW enc k w0 blk off d, w' = q.w := fun p => HC.out.at p rfl _ _
      have HR : Aside (∀ v, ltOf cf d[h]! d[a]! = v → (if v = true then Bin (fun q => ltOf cf d[q]! d[a]!) m b (h + 1) j else Bin (fun q => ltOf cf d[q]! d[a]!) m b i h)) := fun v hv => by
        cases v with
        | true => exact HB.out.right hih hhj hv
        | false => exact HB.out.left hih hhj hv
      obtain ⟨x, hx⟩ : ∃ x, d[h]! = x := ⟨_, rfl⟩
      obtain ⟨y, hy⟩ : ∃ y, d[a]! = y := ⟨_, rfl⟩
      rw [hx] at lh hcg
      rw [hy] at la hcg
      have HX : Aside (d[h]! = x) := hx
      have HY : Aside (d[a]! = y) := hy
      clear hx hy
      by_cases hlv : cf x y < 0
      · have HL : Aside (ltOf cf d[h]! d[a]! = true) := by show _ = _; rw [HX.out, HY.out]; exact decide_eq_true hlv
        go_wp2_with fail
        haveI : Inhabited (SBW enc k w0 blk off d) := ⟨⟨_, S1.out⟩⟩
        refine wp_region_sb S1.out (by assumption) (by kernel_rfl) ?_
        repeat (quiet_step ((go_at_fn g; exact hcg _)))
        refine wpQuiet_nil ?_
        intro _ hw'
        obtain ⟨p, rfl⟩ := hw'
        go_wp2_with fail
        go_roundg (j - (h + 1) + m)
        case measure => have := HK.out; omega
        case rel => exact ⟨h + 1, j, by go_num, rfl, by omega, by omega, hjb, rfl, p.h, HR.out true HL.out⟩
      · have HL : Aside (ltOf cf d[h]! d[a]! = false) := by show _ = _; rw [HX.out, HY.out]; exact decide_eq_false hlv
        go_wp2_with fail
        haveI : Inhabited (SBW enc k w0 blk off d) := ⟨⟨_, S1.out⟩⟩
        refine wp_region_sb S1.out (by assumption) (by kernel_rfl) ?_
        repeat (quiet_step ((go_at_fn g; exact hcg _)))
        refine wpQuiet_nil ?_
        intro _ hw'
        obtain ⟨p, rfl⟩ := hw'
        go_wp2_with fail
        go_roundg (h - i + m)
        case measure => have := HK.out; omega
        case rel => exact ⟨i, h, rfl, rfl, hmi, by omega, by omega, rfl, p.h, HR.out false HL.out⟩
    · have hi : j = i := by omega
      subst hi
      have HD : Aside (MvR (pre ++ (merge (ltOf cf) U V ++ post)) j a d) := HT.out.one_left HO.out HM.out HB.out
      clear HB HK
      go_wp2_with fail
      go_loopg [13] (j - a) (fun kx s13 wr2 => ∃ (q : Nat) (dk : Array α), s13 = .int .i64 q ∧ a ≤ q ∧ q + 1 ≤ j ∧ Aside (kx = j - q) ∧ dk.size = d.size ∧ Aside (SB enc k w0 blk off dk wr2) ∧ Aside (MvR (pre ++ (merge (ltOf cf) U V ++ post)) j q dk))
      case atStart => exact ⟨a, d, rfl, Nat.le_refl _, by omega, rfl, rfl, S1, HD⟩
      case round =>
        clear S1 HD
        obtain ⟨q, dk, rfl, haq, hqj, HK, hds, S1, HD⟩ := hrel
        by_cases hq : q + 1 < j
        · have hqz : (q : Int) < (j : Int) - 1 := by omega
          have e0 : ((q : Int) + 1).toNat = q + 1 := by omega
          have p0 : (0 : Int) ≤ (q : Int) + 1 := by omega
          have b0 : (q : Int) + 1 < (d.size : Int) := by omega
          have b1 : (q : Int) < (d.size : Int) := by omega
          go_wp2_with fail
          have S2 : Aside (SB enc k w0 blk off (swp dk q (q + 1)) ((wr.drew.setCells blk (off + q * k) (enc dk[q + 1]!)).setCells blk (off + (q + 1) * k) (enc dk[q]!))) := S1.out.swapped RR.out q (q + 1) (by omega) (by omega)
          have la := S1.out.ld1 RR.out (by have := HS.out; omega) P q (by omega)
          have lb := S1.out.ld1 RR.out (by have := HS.out; omega) P (q + 1) (by omega)
          have sa := S1.out.st1 RR.out (by have := HS.out; omega) P q (by omega) dk[q + 1]!
          have sb := S1.out.st2 RR.out (by have := HS.out; omega) P q (q + 1) (by omega) (by omega) dk[q + 1]! dk[q]!
          have na : (enc dk[q]!).length = k := RR.out.hk _
          have nb : (enc dk[q + 1]!).length = k := RR.out.hk _
          generalize enc dk[q]! = cI at S2 la sb na
          generalize enc dk[q + 1]! = cJ at S2 lb sa sb nb
          clear S1
          go_big_region_o
          clear la lb sa sb
          generalize (wr.drew.setCells blk (off + q * k) cJ).setCells blk (off + (q + 1) * k) cI = w2 at S2 ⊢
          go_wp2
          go_roundg (j - (q + 1))
          case measure => have := HK.out; omega
          case rel => exact ⟨q + 1, swp dk q (q + 1), by go_num, by omega, by omega, rfl, by rw [size_swp]; exact hds, S2, HD.out.step hq⟩
        · have hqz : ¬ (q : Int) < (j : Int) - 1 := by omega
          go_wp2
          refine bodyPost_ret (results_none rfl _ _ _) rfl ?_
          exact ⟨rfl, dk, HD.out.done hq, hds, S1.out⟩
variable {P : Program} {α : Type} [Inhabited α]
theorem symRight_w (L : StLays P) (k : Nat) (aE : ∀ w, (isAgg 39).run P w = .ok true w) (zE : ∀ w, (Go.sizeOf 39).run P w = .ok k w) (enc : α → List Value) (cf : α → α → Int) (g : Nat) (cb : Array Value) (eg : ∀ args w, (callFunc g args).run P w = .ok (.enter g args) w)
    (blk off cap a m b : Nat) (d0 d : Array α) (w0 w : World)
    (R : RowK enc k w0 blk off d0) (hs : d0.size = d.size) (hC : CmpB P g cb enc k cf blk off d.size w0) (O : Stable.Ord (ltOf cf)) (S : SB enc k w0 blk off d w) (ham : a + 1 < m) (hm : b = m + 1) (hb : b ≤ d.size) (hsz : d.size < 4611686018427387904)
    (pre U V post : List α) (T : Two (ltOf cf) a m b pre U V post d) :
    Calls P 172 #[.slice (some ⟨blk, off, none⟩) d.size cap, .int .i64 a, .int .i64 m, .int .i64 b, .func (.func g) #[] cb] w fun e w' => e = .returned (.tuple #[]) ∧ ∃ d', d'.toList = pre ++ (merge (ltOf cf) U V ++ post) ∧ d'.size = d.size ∧ SB enc k w0 blk off d' w' := by
  have mixed := L.mixed; have t3 := L.t3; have a3 := L.a3; have z3 := L.z3; have v3 := L.v3; have t4 := L.t4; have a4 := L.a4; have z4 := L.z4; have v4 := L.v4; have t53 := L.t53; have a53 := L.a53; have z53 := L.z53; have t22 := L.t22; have a22 := L.a22; have z22 := L.z22; have t45 := L.t45
  have FG := L.f34
  have S0 : Aside (SB enc k w0 blk off d w) := S
  have HC : Aside (CmpB P g cb enc k cf blk off d.size w0) := hC
  have HT : Aside (Two (ltOf cf) a m b pre U V post d) := T
  have HO : Aside (Stable.Ord (ltOf cf)) := O
  have B0 : Aside (Bin (fun q => !ltOf cf d[m]! d[q]!) a m a m) := Bin.start (T.mono2 O) (by omega)
  have HM : Aside (b = m + 1) := hm
  have am : a < m := by omega
  have mb : m < b := by omega
  have tm : ((m : Int) - (a : Int) == 1) = false := by rw [beq_eq_false_iff_ne]; omega
  have tm2 : ((b : Int) - (m : Int) == 1) = true := by rw [beq_iff_eq]; omega
  have RR : Aside (RowK enc k w0 blk off d0) := R
  have HS : Aside (d0.size = d.size) := hs
  clear S hC T O hm L hs R
  go_enter FG, Tryz.ntmps172
  go_wp2_with fail
  go_loopg [14, 15] m (fun kx s10 s11 wr => ∃ (i j : Nat), s10 = .int .i64 i ∧ s11 = .int .i64 j ∧ a ≤ i ∧ i ≤ j ∧ j ≤ m ∧ Aside (kx = j - i + a) ∧ Aside (SB enc k w0 blk off d wr) ∧ Aside (Bin (fun q => !ltOf cf d[m]! d[q]!) a m i j))
  case atStart => exact ⟨a, m, rfl, rfl, Nat.le_refl _, by omega, Nat.le_refl _, (show _ = _ by omega), S0, B0⟩
  case round =>
    clear S0 B0
    obtain ⟨i, j, rfl, rfl, hmi, hij, hjb, HK, S1, HB⟩ := hrel
    by_cases hlt : i < j
    · have hltz : (i : Int) < (j : Int) := by omega
      obtain ⟨h, hh, hih, hhj⟩ := half_nat i j (by omega) hlt
      have pH : (0 : Int) ≤ (h : Int) := by omega
      have bH : (h : Int) < (d.size : Int) := by omega
      have bA : (m : Int) < (d.size : Int) := by omega
      have lh : ∀ p : SBW enc k w0 blk off d, Sem.run P (loadCellsFrom ⟨blk, off + h * k, none⟩ 0 k #[]) p.w = .ok (enc d[h]!).toArray p.w := fun p => p.h.load RR.out HS.out.symm P h (by omega)
      have la : ∀ p : SBW enc k w0 blk off d, Sem.run P (loadCellsFrom ⟨blk, off + m * k, none⟩ 0 k #[]) p.w = .ok (enc d[m]!).toArray p.w := fun p => p.h.load RR.out HS.out.symm P m (by omega)
      have hcg : ∀ p : SBW enc k w0 blk off d, Calls P g (#[.agg (enc d[m]!).toArray, .agg (enc d[h]!).toArray] ++ cb) p.w fun e w' => e = .returned (.int .i64 (cf d[m]! d[h]!)) ∧ ∃ q : SBW enc k w0 blk off d, w' = q.w := fun p => HC.out.at p rfl _ _
      have HR : Aside (∀ v, ltOf cf d[m]! d[h]! = v → (if v = true then Bin (fun q => !ltOf cf d[m]! d[q]!) a m i h else Bin (fun q => !ltOf cf d[m]! d[q]!) a m (h + 1) j)) := fun v hv => by
        cases v with
        | true => exact HB.out.left hih hhj (by simp [hv])
        | false => exact HB.out.right hih hhj (by simp [hv])
      obtain ⟨x, hx⟩ : ∃ x, d[h]! = x := ⟨_, rfl⟩
      obtain ⟨y, hy⟩ : ∃ y, d[m]! = y := ⟨_, rfl⟩
      rw [hx] at lh hcg
      rw [hy] at la hcg
      have HX : Aside (d[h]! = x) := hx
      have HY : Aside (d[m]! = y) := hy
      clear hx hy
      by_cases hlv : cf y x < 0
      · have HL : Aside (ltOf cf d[m]! d[h]! = true) := by show _ = _; rw [HY.out, HX.out]; exact decide_eq_true hlv
        go_wp2_with fail
        haveI : Inhabited (SBW enc k w0 blk off d) := ⟨⟨_, S1.out⟩⟩
        refine wp_region_sb S1.out (by assumption) (by kernel_rfl) ?_
        repeat (quiet_step ((go_at_fn g; exact hcg _)))
        refine wpQuiet_nil ?_
        intro _ hw'
        obtain ⟨p, rfl⟩ := hw'
        go_wp2_with fail
        go_roundg (h - i + a)
        case measure => have := HK.out; omega
        case rel => exact ⟨i, h, rfl, rfl, hmi, by omega, by omega, rfl, p.h, HR.out true HL.out⟩
      · have HL : Aside (ltOf cf d[m]! d[h]! = false) := by show _ = _; rw [HY.out, HX.out]; exact decide_eq_false hlv
        have hdn : decide (cf y x < 0) = false := decide_eq_false hlv
        go_wp2_with fail
        haveI : Inhabited (SBW enc k w0 blk off d) := ⟨⟨_, S1.out⟩⟩
        refine wp_region_sb S1.out (by assumption) (by kernel_rfl) ?_
        repeat (quiet_step ((go_at_fn g; exact hcg _)))
        refine wpQuiet_nil ?_
        intro _ hw'
        obtain ⟨p, rfl⟩ := hw'
        go_wp2_with fail
        go_roundg (j - (h + 1) + a)
        case measure => have := HK.out; omega
        case rel => exact ⟨h + 1, j, by go_num, rfl, by omega, by omega, hjb, rfl, p.h, HR.out false HL.out⟩
    · have hi : j = i := by omega
      subst hi
      have HD : Aside (MvL (pre ++ (merge (ltOf cf) U V ++ post)) j m d) := HT.out.one_right HO.out HM.out HB.out
      clear HB HK
      go_wp2_with fail
      go_loopg [17] (m - j) (fun kx s17 wr2 => ∃ (q : Nat) (dk : Array α), s17 = .int .i64 q ∧ q ≤ m ∧ j ≤ q ∧ Aside (kx = q - j) ∧ dk.size = d.size ∧ Aside (SB enc k w0 blk off dk wr2) ∧ Aside (MvL (pre ++ (merge (ltOf cf) U V ++ post)) j q dk))
      case atStart => exact ⟨m, d, rfl, Nat.le_refl _, by omega, rfl, rfl, S1, HD⟩
      case round =>
        clear S1 HD
        obtain ⟨q, dk, rfl, haq, hqj, HK, hds, S1, HD⟩ := hrel
        by_cases hq : j < q
        · obtain ⟨q, rfl⟩ : ∃ r, q = r + 1 := ⟨q - 1, by omega⟩
          have hqz : (j : Int) < (q : Int) + 1 := by omega
          have e0 : ((q : Int) + 1).toNat = q + 1 := by omega
          have p0 : (0 : Int) ≤ (q : Int) + 1 := by omega
          have b0 : (q : Int) + 1 < (d.size : Int) := by omega
          have b1 : (q : Int) < (d.size : Int) := by omega
          have hwp : IntKind.i64.wrap (q : Int) = (q : Int) := by rw [IntKind.wrap_i64]; omega
          go_wp2_with fail
          have S2 : Aside (SB enc k w0 blk off (swp dk (q + 1) q) ((wr.drew.setCells blk (off + (q + 1) * k) (enc dk[q]!)).setCells blk (off + q * k) (enc dk[q + 1]!))) := S1.out.swapped RR.out (q + 1) q (by omega) (by omega)
          have la := S1.out.ld1 RR.out (by have := HS.out; omega) P (q + 1) (by omega)
          have lb := S1.out.ld1 RR.out (by have := HS.out; omega) P q (by omega)
          have sa := S1.out.st1 RR.out (by have := HS.out; omega) P (q + 1) (by omega) dk[q]!
          have sb := S1.out.st2 RR.out (by have := HS.out; omega) P (q + 1) q (by omega) (by omega) dk[q]! dk[q + 1]!
          have na : (enc dk[q + 1]!).length = k := RR.out.hk _
          have nb : (enc dk[q]!).length = k := RR.out.hk _
          generalize enc dk[q + 1]! = cI at S2 la sb na
          generalize enc dk[q]! = cJ at S2 lb sa sb nb
          clear S1
          go_big_region_o
          clear la lb sa sb
          generalize (wr.drew.setCells blk (off + (q + 1) * k) cJ).setCells blk (off + q * k) cI = w2 at S2 ⊢
          go_wp2
          go_roundg (q - j)
          case measure => have := HK.out; omega
          case rel => exact ⟨q, swp dk (q + 1) q, by go_num, by omega, by omega, rfl, by rw [size_swp]; exact hds, S2, HD.out.step hq⟩
        · have hqz : ¬ (j : Int) < (q : Int) := by omega
          go_wp2
          refine bodyPost_ret (results_none rfl _ _ _) rfl ?_
          exact ⟨rfl, dk, HD.out.done hq, hds, S1.out⟩
variable {P : Program} {α : Type} [Inhabited α]
theorem mid_way (a m b : Nat) (am : a < m) (mb : m < b) : ∃ mid lo hi : Nat, ((a : Int) + (b : Int)) / 2 = (mid : Int) ∧ Mid a m b mid lo hi ∧ ((mid < m ∧ (mid : Int) + (m : Int) - (b : Int) = (lo : Int) ∧ hi = mid) ∨ (¬ mid < m ∧ lo = a ∧ hi = m)) := by
  by_cases h : (a + b) / 2 < m
  · exact ⟨(a + b) / 2, (a + b) / 2 + m - b, (a + b) / 2, by omega, ⟨am, mb, rfl, .inl ⟨h, by omega, rfl⟩⟩, .inl ⟨h, by omega, rfl⟩⟩
  · exact ⟨(a + b) / 2, a, m, by omega, ⟨am, mb, rfl, .inr ⟨by omega, rfl, rfl⟩⟩, .inr ⟨h, rfl, rfl⟩⟩
/-- What a call of symMerge does. -/
def SymDoes (P : Program) (enc : α → List Value) (k : Nat) (lt : α → α → Bool) (g : Nat) (cb : Array Value) (blk off cap a m b : Nat) (d : Array α) (w0 w : World) : Prop :=
  ∀ pre U V post : List α, Two lt a m b pre U V post d → Calls P 172 #[.slice (some ⟨blk, off, none⟩) d.size cap, .int .i64 a, .int .i64 m, .int .i64 b, .func (.func g) #[] cb] w fun e w' => e = .returned (.tuple #[]) ∧ ∃ d', d'.toList = pre ++ (merge lt U V ++ post) ∧ d'.size = d.size ∧ SB enc k w0 blk off d' w'
theorem symMid_w (L : StLays P) (k : Nat) (aE : ∀ w, (isAgg 39).run P w = .ok true w) (zE : ∀ w, (Go.sizeOf 39).run P w = .ok k w) (enc : α → List Value) (cf : α → α → Int) (g : Nat) (cb : Array Value) (eg : ∀ args w, (callFunc g args).run P w = .ok (.enter g args) w)
    (blk off cap a m b : Nat) (d0 d : Array α) (w0 w : World)
    (R : RowK enc k w0 blk off d0) (hs : d0.size = d.size) (hC : CmpB P g cb enc k cf blk off d.size w0) (O : Stable.Ord (ltOf cf)) (S : SB enc k w0 blk off d w) (ham : a + 1 < m) (hmb : m + 1 < b) (hb : b ≤ d.size) (hsz : d.size < 4611686018427387904)
    (pre U V post : List α) (T : Two (ltOf cf) a m b pre U V post d)
    (IH : ∀ (a' m' b' : Nat) (d' : Array α) (w' : World), b' - a' < b - a → d'.size = d.size → a' < m' → m' < b' → b' ≤ d.size → SB enc k w0 blk off d' w' → SymDoes P enc k (ltOf cf) g cb blk off cap a' m' b' d' w0 w') :
    Calls P 172 #[.slice (some ⟨blk, off, none⟩) d.size cap, .int .i64 a, .int .i64 m, .int .i64 b, .func (.func g) #[] cb] w fun e w' => e = .returned (.tuple #[]) ∧ ∃ d', d'.toList = pre ++ (merge (ltOf cf) U V ++ post) ∧ d'.size = d.size ∧ SB enc k w0 blk off d' w' := by
  obtain ⟨mid, lo, hi, hmid, M, way⟩ := mid_way a m b (by omega) (by omega)
  obtain ⟨f1, f2, f3, f4, f5, f6, f7⟩ := M.facts
  have B0 : Aside (Bin (fun c => !ltOf cf d[mid + m - 1 - c]! d[c]!) lo hi lo hi) := Bin.start (T.mono3 O f1 f3 f7) f2
  have F7 := aside (f7)
  have mixed := L.mixed; have t3 := L.t3; have a3 := L.a3; have z3 := L.z3; have v3 := L.v3; have t4 := L.t4; have a4 := L.a4; have z4 := L.z4; have v4 := L.v4; have t53 := L.t53; have a53 := L.a53; have z53 := L.z53; have t22 := L.t22; have a22 := L.a22; have z22 := L.z22; have t45 := L.t45
  have FG := L.f34
  have e34 := L.e34
  have e36 := L.e36
  have S0 : Aside (SB enc k w0 blk off d w) := S
  have HC : Aside (CmpB P g cb enc k cf blk off d.size w0) := hC
  have HT : Aside (Two (ltOf cf) a m b pre U V post d) := T
  have HO : Aside (Stable.Ord (ltOf cf)) := O
  have HM : Aside (Mid a m b mid lo hi) := M
  have HI := aside (IH)
  have tm : ((m : Int) - (a : Int) == 1) = false := by rw [beq_eq_false_iff_ne]; omega
  have tm2 : ((b : Int) - (m : Int) == 1) = false := by rw [beq_eq_false_iff_ne]; omega
  have RR : Aside (RowK enc k w0 blk off d0) := R
  have HS : Aside (d0.size = d.size) := hs
  have LL : Aside (StLays P) := L
  clear S hC T O M L hs R IH f7
  go_enter FG, Tryz.ntmps172
  have WAY := aside (way)
  have pp : ∃ pp : Nat, (mid : Int) + (m : Int) - 1 = (pp : Int) ∧ pp = mid + m - 1 := ⟨mid + m - 1, by omega, rfl⟩
  obtain ⟨pp, epp, hpp⟩ := pp
  have HPP := aside (hpp)
  have hpl : pp < d.size + d.size := by omega
  clear way hpp
  go_upto_if 140 with fail
  go_cut [20, 21] from 138 to 146 (fun s20 s21 wx => s20 = .int .i64 lo ∧ s21 = .int .i64 hi ∧ wx = w)
  case first =>
    rcases WAY.out with ⟨w1, eLo, rfl⟩ | ⟨w1, rfl, rfl⟩
    · go_wp2_with fail
      go_meet
      exact ⟨rfl, rfl, rfl⟩
    · go_wp2_with fail
      go_meet
      exact ⟨rfl, rfl, rfl⟩
  case rest =>
    obtain ⟨rfl, rfl, rfl⟩ := hcut
    clear WAY
    go_wp2_with fail
    go_loopg [20, 21] (hi - lo) (fun kx s20 s21 wr => ∃ (i j : Nat), s20 = .int .i64 i ∧ s21 = .int .i64 j ∧ lo ≤ i ∧ i ≤ j ∧ j ≤ hi ∧ Aside (kx = j - i) ∧ Aside (SB enc k w0 blk off d wr) ∧ Aside (Bin (fun c => !ltOf cf d[mid + m - 1 - c]! d[c]!) lo hi i j))
    case atStart => exact ⟨lo, hi, rfl, rfl, Nat.le_refl _, f2, Nat.le_refl _, rfl, S0, B0⟩
    case round =>
      clear S0 B0
      obtain ⟨i, j, rfl, rfl, hmi, hij, hjb, HK, S1, HB⟩ := hrel
      by_cases hlt : i < j
      · have hltz : (i : Int) < (j : Int) := by omega
        obtain ⟨c, hh, hih, hhj⟩ := half_nat i j (by omega) hlt
        obtain ⟨g1, g2, g3⟩ := F7.out c (by omega) (by omega)
        have q1 : c ≤ pp := by have := HPP.out; omega
        have q2 : pp - c < b := by have := HPP.out; omega
        have q3 : mid + m - 1 - c = pp - c := by have := HPP.out; omega
        have Q3 := aside (q3)
        clear g1 g2 g3 q3
        have e0 : ((pp : Int) - (c : Int)).toNat = pp - c := by omega
        have p0 : (0 : Int) ≤ (pp : Int) - (c : Int) := by omega
        have rP : IntKind.i64.wrap ((pp : Int) - (c : Int)) = (pp : Int) - (c : Int) := by rw [IntKind.wrap_i64]; omega
        have b0 : (pp : Int) - (c : Int) < (d.size : Int) := by omega
        have pH : (0 : Int) ≤ (c : Int) := by omega
        have bH : (c : Int) < (d.size : Int) := by omega
        have lh : ∀ p : SBW enc k w0 blk off d, Sem.run P (loadCellsFrom ⟨blk, off + (pp - c) * k, none⟩ 0 k #[]) p.w = .ok (enc d[pp - c]!).toArray p.w := fun p => p.h.load RR.out HS.out.symm P (pp - c) (by omega)
        have la : ∀ p : SBW enc k w0 blk off d, Sem.run P (loadCellsFrom ⟨blk, off + c * k, none⟩ 0 k #[]) p.w = .ok (enc d[c]!).toArray p.w := fun p => p.h.load RR.out HS.out.symm P c (by omega)
        have hcg : ∀ p : SBW enc k w0 blk off d, Calls P g (#[.agg (enc d[pp - c]!).toArray, .agg (enc d[c]!).toArray] ++ cb) p.w fun e w' => e = .returned (.int .i64 (cf d[pp - c]! d[c]!)) ∧ ∃ q : SBW enc k w0 blk off d, w' = q.w := fun p => HC.out.at p rfl _ _
        have HR : Aside (∀ v, ltOf cf d[pp - c]! d[c]! = v → (if v = true then Bin (fun c => !ltOf cf d[mid + m - 1 - c]! d[c]!) lo hi i c else Bin (fun c => !ltOf cf d[mid + m - 1 - c]! d[c]!) lo hi (c + 1) j)) := fun v hv => by
          cases v with
          | true => exact HB.out.left hih hhj (by simp only [Q3.out]; simp [hv])
          | false => exact HB.out.right hih hhj (by simp only [Q3.out]; simp [hv])
        obtain ⟨x, hx⟩ : ∃ x, d[pp - c]! = x := ⟨_, rfl⟩
        obtain ⟨y, hy⟩ : ∃ y, d[c]! = y := ⟨_, rfl⟩
        rw [hx] at lh hcg
        rw [hy] at la hcg
        have HX : Aside (d[pp - c]! = x) := hx
        have HY : Aside (d[c]! = y) := hy
        clear hx hy
        by_cases hlv : cf x y < 0
        · have HL : Aside (ltOf cf d[pp - c]! d[c]! = true) := by show _ = _; rw [HX.out, HY.out]; exact decide_eq_true hlv
          go_wp2_with fail
          haveI : Inhabited (SBW enc k w0 blk off d) := ⟨⟨_, S1.out⟩⟩
          refine wp_region_sb S1.out (by assumption) (by kernel_rfl) ?_
          repeat (quiet_step ((go_at_fn g; exact hcg _)))
          refine wpQuiet_nil ?_
          intro _ hw'
          obtain ⟨p, rfl⟩ := hw'
          go_wp2_with fail
          go_roundg (c - i)
          case measure => have := HK.out; omega
          case rel => exact ⟨i, c, rfl, rfl, hmi, by omega, by omega, rfl, p.h, HR.out true HL.out⟩
        · have HL : Aside (ltOf cf d[pp - c]! d[c]! = false) := by show _ = _; rw [HX.out, HY.out]; exact decide_eq_false hlv
          have hdn : decide (cf x y < 0) = false := decide_eq_false hlv
          go_wp2_with fail
          haveI : Inhabited (SBW enc k w0 blk off d) := ⟨⟨_, S1.out⟩⟩
          refine wp_region_sb S1.out (by assumption) (by kernel_rfl) ?_
          repeat (quiet_step ((go_at_fn g; exact hcg _)))
          refine wpQuiet_nil ?_
          intro _ hw'
          obtain ⟨p, rfl⟩ := hw'
          go_wp2_with fail
          go_roundg (j - (c + 1))
          case measure => have := HK.out; omega
          case rel => exact ⟨c + 1, j, by go_num, rfl, by omega, by omega, hjb, rfl, p.h, HR.out false HL.out⟩
      · have hi' : j = i := by omega
        subst hi'
        have hP : Parts (ltOf cf) a m b mid j (mid + m - j) U V := HT.out.parts HO.out HM.out HB.out
        have HP : Aside (Parts (ltOf cf) a m b mid j (mid + m - j) U V) := hP
        have eE : ∃ e : Nat, (mid : Int) + (m : Int) - (j : Int) = (e : Int) ∧ mid + m - j = e := ⟨mid + m - j, by omega, rfl⟩
        obtain ⟨e, eE, he⟩ := eE
        rw [he] at hP HP
        have k1 := hP.sa; have k2 := hP.sm; have k3 := hP.smid; have k4 := hP.me; have k5 := hP.eb; have k6 := hP.mide
        clear HB HK he hP F7
        go_upto_region 39 with fail
        go_cut [185] from 178 to 184 (fun s wx => s = .bool (decide (j < m) && decide (m < e)) ∧ wx = wr)
        case first =>
          by_cases h1 : j < m
          · go_wp2_with fail
            go_meet
            exact ⟨by simp [h1], rfl⟩
          · go_wp2_with fail
            go_meet
            exact ⟨by simp [h1], rfl⟩
        case rest =>
          obtain ⟨rfl, rfl⟩ := hcut
          go_upto_if 185 with fail
          go_cut [] from 185 to 191 (fun wx => ∃ d1 : Array α, Aside (St1 U V pre post a m j e d.size d1) ∧ Aside (SB enc k w0 blk off d1 wx))
          case first =>
            by_cases h1 : j < m
            · by_cases h2 : m < e
              · have hc := rotate_w LL.out k aE zE enc g cb blk off cap j m e d0 d w0 _ RR.out HS.out S1.out h1 h2 (by omega) hsz _ (HP.out.left HT.out.la HT.out.list)
                have HC2 := aside (hc)
                clear hc
                go_wp2_with (go_at_fn 178; refine HC2.out.mono ?_; rintro e1 w1 ⟨rfl, d1, hd1, hd2, hd3⟩)
                go_meet
                exact ⟨d1, ⟨hd1, hd2⟩, hd3⟩
              · go_wp2_with fail
                go_meet
                exact ⟨d, HP.out.st1_none HT.out.list rfl (fun h => h2 h.2), S1⟩
            · go_wp2_with fail
              go_meet
              exact ⟨d, HP.out.st1_none HT.out.list rfl (fun h => h1 h.1), S1⟩
          case rest =>
            clear S1
            obtain ⟨d1, HD1, S1⟩ := hcut
            go_upto_region 41 with fail
            go_cut [199] from 192 to 198 (fun s wx => s = .bool (decide (a < j) && decide (j < mid)) ∧ wx = wc)
            case first =>
              by_cases h1 : a < j
              · go_wp2_with fail
                go_meet
                exact ⟨by simp [h1], rfl⟩
              · go_wp2_with fail
                go_meet
                exact ⟨by simp [h1], rfl⟩
            case rest =>
              obtain ⟨rfl, rfl⟩ := hcut
              go_upto_if 199 with fail
              go_cut [] from 199 to 205 (fun wx => ∃ d2 : Array α, Aside (St2 (ltOf cf) U V pre post a m j e d.size d2) ∧ Aside (SB enc k w0 blk off d2 wx))
              case first =>
                by_cases h1 : a < j
                · by_cases h2 : j < mid
                  · have hc := HI.out a j mid d1 _ (by omega) HD1.out.2 h1 h2 (by omega) S1.out _ _ _ _ (HD1.out.two HP.out HT.out.la)
                    rw [HD1.out.2] at hc
                    have HC2 := aside (hc)
                    clear hc
                    go_wp2_with (go_at_fn 172; refine HC2.out.mono ?_; rintro e1 w1 ⟨rfl, d2, hd1, hd2, hd3⟩)
                    go_meet
                    exact ⟨d2, St2.of hd1 hd2, hd3⟩
                  · go_wp2_with fail
                    go_meet
                    exact ⟨d1, HD1.out.none HP.out (fun h => h2 h.2), S1⟩
                · go_wp2_with fail
                  go_meet
                  exact ⟨d1, HD1.out.none HP.out (fun h => h1 h.1), S1⟩
              case rest =>
                clear S1 HD1
                obtain ⟨d2, HD2, S2⟩ := hcut
                by_cases h1 : mid < e
                · by_cases h2 : e < b
                  · have hc := HI.out mid e b d2 _ (by omega) HD2.out.2 h1 h2 (by omega) S2.out _ _ _ _ (HD2.out.two HP.out HT.out.la)
                    rw [HD2.out.2] at hc
                    have HC2 := aside (hc)
                    clear hc
                    go_wp2_with (go_at_fn 172; refine HC2.out.mono ?_; rintro e1 w1 ⟨rfl, d3, hd1, hd2, hd3⟩)
                    go_end0
                    have h3 := St3.of (post := post) (n := d.size) HP.out hd1 hd2
                    exact ⟨rfl, d3, h3.1, h3.2, hd3⟩
                  · go_wp2_with fail
                    go_end0
                    have h3 := HD2.out.none HP.out (fun h => h2 h.2)
                    exact ⟨rfl, d2, h3.1, h3.2, S2.out⟩
                · go_wp2_with fail
                  go_end0
                  have h3 := HD2.out.none HP.out (fun h => h1 h.1)
                  exact ⟨rfl, d2, h3.1, h3.2, S2.out⟩
/-- Two sorted neighbours in one. -/
theorem symMerge_w (L : StLays P) (k : Nat) (aE : ∀ w, (isAgg 39).run P w = .ok true w) (zE : ∀ w, (Go.sizeOf 39).run P w = .ok k w) (enc : α → List Value) (cf : α → α → Int) (g : Nat) (cb : Array Value) (eg : ∀ args w, (callFunc g args).run P w = .ok (.enter g args) w)
    (blk off cap n : Nat) (d0 : Array α) (w0 : World) (R : RowK enc k w0 blk off d0) (hs : d0.size = n) (hC : CmpB P g cb enc k cf blk off n w0) (O : Stable.Ord (ltOf cf)) (hsz : n < 4611686018427387904) :
    ∀ (q a m b : Nat) (d : Array α) (w : World), b - a ≤ q → d.size = n → a < m → m < b → b ≤ n → SB enc k w0 blk off d w → SymDoes P enc k (ltOf cf) g cb blk off cap a m b d w0 w
  | 0, a, m, b, d, w, hq, _, h1, h2, _, _ => by omega
  | q + 1, a, m, b, d, w, hq, hd, h1, h2, hb, S => by
    subst hd
    intro pre U V post T
    by_cases c1 : m = a + 1
    · exact symLeft_w L k aE zE enc cf g cb eg blk off cap a m b d0 d w0 w R hs hC O S c1 h2 hb hsz pre U V post T
    · by_cases c2 : b = m + 1
      · exact symRight_w L k aE zE enc cf g cb eg blk off cap a m b d0 d w0 w R hs hC O S (by omega) c2 hb hsz pre U V post T
      · exact symMid_w L k aE zE enc cf g cb eg blk off cap a m b d0 d w0 w R hs hC O S (by omega) (by omega) hb hsz pre U V post T
          (fun a' m' b' d' w' hlt hd' x1 x2 x3 S' => symMerge_w L k aE zE enc cf g cb eg blk off cap _ d0 w0 R hs hC O hsz q a' m' b' d' w' (by omega) hd' x1 x2 (by omega) S')
variable {P : Program} {α : Type} [Inhabited α]
theorem insertion_w (L : StLays P) (k : Nat) (aE : ∀ w, (isAgg 39).run P w = .ok true w) (zE : ∀ w, (Go.sizeOf 39).run P w = .ok k w) (enc : α → List Value) (cf : α → α → Int) (g : Nat) (cb : Array Value) (eg : ∀ args w, (callFunc g args).run P w = .ok (.enter g args) w)
    (blk off cap a b n : Nat) (d0 d : Array α) (w0 w : World)
    (R : RowK enc k w0 blk off d0) (hs : d0.size = n) (hn : d.size = n) (hC : CmpB P g cb enc k cf blk off n w0) (O : Stable.Ord (ltOf cf)) (S : SB enc k w0 blk off d w) (hsz : n < 4611686018427387904)
    (pre seg post : List α) (T : d.toList = pre ++ (seg ++ post)) (la : pre.length = a) (lb : seg.length + a = b) :
    Calls P 171 #[.slice (some ⟨blk, off, none⟩) n cap, .int .i64 a, .int .i64 b, .func (.func g) #[] cb] w fun e w' => e = .returned (.tuple #[]) ∧ ∃ d', d'.toList = pre ++ (isort (ltOf cf) seg ++ post) ∧ d'.size = n ∧ SB enc k w0 blk off d' w' := by
  have hbn : b ≤ n := by
    have h1 : d.toList.length = n := by rw [Array.length_toList]; exact hn
    rw [T] at h1; simp at h1; omega
  have mixed := L.mixed; have t3 := L.t3; have a3 := L.a3; have z3 := L.z3; have v3 := L.v3; have t4 := L.t4; have a4 := L.a4; have z4 := L.z4; have v4 := L.v4; have t22 := L.t22; have a22 := L.a22; have z22 := L.z22; have t45 := L.t45
  have FG := L.f33
  have HC : Aside (CmpB P g cb enc k cf blk off n w0) := hC
  have HO : Aside (Stable.Ord (ltOf cf)) := O
  have RR : Aside (RowK enc k w0 blk off d0) := R
  have HS : Aside (d0.size = n) := hs
  have S0 : Aside (SB enc k w0 blk off d w) := S
  have T0 : Aside (Outer (ltOf cf) pre seg post a (a + 1) d) := Outer.start T
  have LA : Aside (pre.length = a) := la
  have LB : Aside (seg.length + a = b) := lb
  have hab : a ≤ b := by omega
  have HN : Aside (d.size = n) := hn
  clear hC O R hs S T la lb L hn
  go_enter FG, Tryz.ntmps171
  go_wp2_with fail
  go_loopg [8] (b - a) (fun g1 vi wr => ∃ (i : Nat) (dk : Array α), vi = .int .i64 i ∧ a < i ∧ i ≤ b + 1 ∧ b + 1 - i ≤ g1 + 1 ∧ Aside (dk.size = n) ∧ Aside (SB enc k w0 blk off dk wr) ∧ Aside (Outer (ltOf cf) pre seg post a i dk))
  case atStart => exact ⟨a + 1, d, by go_num, by omega, by omega, by omega, HN, S0, T0⟩
  case round =>
    clear S0 T0 HN
    obtain ⟨i, dk, rfl, hai, hib, hg1, HN, S1, HT⟩ := hrel
    by_cases hlt : i < b
    · have hltz : (i : Int) < (b : Int) := by omega
      obtain ⟨xi, hIns, hOut⟩ := HT.out.next hai (by have := LB.out; omega)
      have HI := aside hIns
      have HOU := aside hOut
      clear hIns hOut HT
      obtain ⟨wo, hwo⟩ : ∃ wo : World, wo = wr := ⟨_, rfl⟩
      subst hwo
      go_wp2_with fail
      go_loopg [9] i (fun g2 vj wr2 => ∃ (j : Nat) (dj : Array α), vj = .int .i64 j ∧ a ≤ j ∧ j ≤ i ∧ j ≤ g2 ∧ Aside (dj.size = n) ∧ Aside (SB enc k w0 blk off dj wr2) ∧ Aside (Ins (ltOf cf) pre (isort (ltOf cf) (seg.take (i - a))) (seg.drop (i + 1 - a) ++ post) xi a j dj))
      case atStart => exact ⟨i, dk, rfl, by omega, Nat.le_refl _, Nat.le_refl _, HN, S1, HI⟩
      case round =>
        clear HN S1 HI
        obtain ⟨j, dj, rfl, haj, hji, hg2, HN, S1, HI⟩ := hrel
        have out : (j ≤ a ∨ ltOf cf dj[j]! dj[j - 1]! = false) → Outer (ltOf cf) pre seg post a (i + 1) dj := fun hst => HOU.out dj (HI.out.done HO.out LA.out (isort_sorted HO.out _) hst)
        have OUT := aside out
        clear out
        by_cases hja : a < j
        · have hjaz : (a : Int) < (j : Int) := by omega
          obtain ⟨jp, rfl⟩ : ∃ jp, j = jp + 1 := ⟨j - 1, by omega⟩
          have hwp : IntKind.i64.wrap (jp : Int) = (jp : Int) := by rw [IntKind.wrap_i64]; omega
          have jz : (jp : Int) + 1 < (n : Int) := by omega
          have jz1 : (jp : Int) < (n : Int) := by omega
          have hjaz' : (a : Int) < (jp : Int) + 1 := by omega
          have p0 : (0 : Int) ≤ (jp : Int) + 1 := by omega
          have e0 : ((jp : Int) + 1).toNat = jp + 1 := by omega
          have hsd : dj.size = d0.size := by rw [HN.out, HS.out]
          have lj : ∀ p : SBW enc k w0 blk off dj, Sem.run P (loadCellsFrom ⟨blk, off + (jp + 1) * k, none⟩ 0 k #[]) p.w = .ok (enc dj[jp + 1]!).toArray p.w := fun p => p.h.load RR.out hsd P (jp + 1) (by have := HN.out; omega)
          have lp : ∀ p : SBW enc k w0 blk off dj, Sem.run P (loadCellsFrom ⟨blk, off + jp * k, none⟩ 0 k #[]) p.w = .ok (enc dj[jp]!).toArray p.w := fun p => p.h.load RR.out hsd P jp (by have := HN.out; omega)
          have hcg : ∀ p : SBW enc k w0 blk off dj, Calls P g (#[.agg (enc dj[jp + 1]!).toArray, .agg (enc dj[jp]!).toArray] ++ cb) p.w fun e w' => e = .returned (.int .i64 (cf dj[jp + 1]! dj[jp]!)) ∧ ∃ q : SBW enc k w0 blk off dj, w' = q.w := fun p => HC.out.at p HN.out _ _
          have HSD := aside hsd
          clear hsd
          obtain ⟨x, hx⟩ : ∃ x, dj[jp + 1]! = x := ⟨_, rfl⟩
          obtain ⟨y, hy⟩ : ∃ y, dj[jp]! = y := ⟨_, rfl⟩
          rw [hx] at lj hcg
          rw [hy] at lp hcg
          have HX := aside hx
          have HY := aside hy
          clear hx hy
          by_cases hlv : cf x y < 0
          · have HL : Aside (ltOf cf dj[jp + 1]! dj[jp]! = true) := by show _ = _; rw [HX.out, HY.out]; exact decide_eq_true hlv
            go_wp2_with fail
            haveI : Inhabited (SBW enc k w0 blk off dj) := ⟨⟨_, S1.out⟩⟩
            refine wp_region_sb S1.out (by assumption) (by kernel_rfl) ?_
            repeat (quiet_step ((go_at_fn g; exact hcg _)))
            refine wpQuiet_nil ?_
            intro _ hw'
            obtain ⟨p, rfl⟩ := hw'
            go_wp2_with fail
            have S2 : Aside (SB enc k w0 blk off (swp dj (jp + 1) jp) ((p.w.drew.setCells blk (off + (jp + 1) * k) (enc dj[jp]!)).setCells blk (off + jp * k) (enc dj[jp + 1]!))) := p.h.swapped RR.out (jp + 1) jp (by have := HN.out; omega) (by have := HN.out; omega)
            have la := p.h.ld1 RR.out HSD.out P (jp + 1) (by have := HN.out; omega)
            have lb := p.h.ld1 RR.out HSD.out P jp (by have := HN.out; omega)
            have sa := p.h.st1 RR.out HSD.out P (jp + 1) (by have := HN.out; omega) dj[jp]!
            have sb := p.h.st2 RR.out HSD.out P (jp + 1) jp (by have := HN.out; omega) (by have := HN.out; omega) dj[jp]! dj[jp + 1]!
            have na : (enc dj[jp + 1]!).length = k := RR.out.hk _
            have nb : (enc dj[jp]!).length = k := RR.out.hk _
            generalize enc dj[jp + 1]! = cI at S2 la sb na
            generalize enc dj[jp]! = cJ at S2 lb sa sb nb
            clear S1 lj lp hcg
            generalize p.w = wp at S2 la lb sa sb ⊢
            clear p
            go_big_region_o
            clear la lb sa sb
            generalize (wp.drew.setCells blk (off + (jp + 1) * k) cJ).setCells blk (off + jp * k) cI = w2 at S2 ⊢
            go_wp2
            go_roundg jp
            case measure => omega
            case rel => exact ⟨jp, swp dj (jp + 1) jp, by first | rfl | go_num | (congr 1; omega), by omega, by omega, Nat.le_refl _, (show _ = _ by rw [size_swp]; exact HN.out), S2, HI.out.step LA.out hja HL.out⟩
          · have HL : Aside (ltOf cf dj[jp + 1]! dj[jp]! = false) := by show _ = _; rw [HX.out, HY.out]; exact decide_eq_false hlv
            have hdn : decide (cf x y < 0) = false := decide_eq_false hlv
            go_wp2_with fail
            haveI : Inhabited (SBW enc k w0 blk off dj) := ⟨⟨_, S1.out⟩⟩
            refine wp_region_sb S1.out (by assumption) (by kernel_rfl) ?_
            repeat (quiet_step ((go_at_fn g; exact hcg _)))
            refine wpQuiet_nil ?_
            intro _ hw'
            obtain ⟨p, rfl⟩ := hw'
            go_wp2
            go_roundg (b - (i + 1))
            case measure => omega
            case rel => exact ⟨i + 1, dj, by go_num, by omega, by omega, by omega, HN, p.h, OUT.out (.inr (by simpa using HL.out))⟩
        · have hjaz : decide ((j : Int) > (a : Int)) = false := decide_eq_false (by omega)
          have hjaz' : ¬ (a : Int) < (j : Int) := by omega
          have S2 : Aside (SB enc k w0 blk off dj wr.drew) := S1.out.drew
          clear S1
          go_wp2_with fail
          go_big_region_o
          all_goals go_wp2
          go_roundg (b - (i + 1))
          case measure => omega
          case rel => exact ⟨i + 1, dj, by go_num, by omega, by omega, by omega, HN, S2, OUT.out (.inl (by omega))⟩
    · have hltz : ¬ (i : Int) < (b : Int) := by omega
      go_wp2
      go_end0
      exact ⟨rfl, dk, HT.out.done (by have := LB.out; omega), HN.out, S1.out⟩
variable {P : Program} {α : Type} [Inhabited α]
theorem stable_w (L : StLays P) (k : Nat) (aE : ∀ w, (isAgg 39).run P w = .ok true w) (zE : ∀ w, (Go.sizeOf 39).run P w = .ok k w) (enc : α → List Value) (cf : α → α → Int) (g : Nat) (cb : Array Value) (eg : ∀ args w, (callFunc g args).run P w = .ok (.enter g args) w)
    (blk off cap n : Nat) (d0 : Array α) (w0 : World)
    (R : RowK enc k w0 blk off d0) (hs : d0.size = n) (hC : CmpB P g cb enc k cf blk off n w0) (O : Stable.Ord (ltOf cf)) (hsz : n < 1152921504606846976) :
    Calls P 156 #[.slice (some ⟨blk, off, none⟩) n cap, .int .i64 n, .func (.func g) #[] cb] w0 fun e w' => e = .returned (.tuple #[]) ∧ ∃ d' : Array α, d'.toList = isort (ltOf cf) d0.toList ∧ d'.size = n ∧ SB enc k w0 blk off d' w' := by
  have mixed := L.mixed; have t3 := L.t3; have a3 := L.a3; have z3 := L.z3; have v3 := L.v3; have t4 := L.t4; have a4 := L.a4; have z4 := L.z4; have v4 := L.v4; have t22 := L.t22; have a22 := L.a22; have z22 := L.z22; have t45 := L.t45
  have FG := L.f30
  have e33 := L.e33
  have e34 := L.e34
  have hl : d0.toList.length = n := by rw [Array.length_toList]; exact hs
  have INS : Aside (∀ (a b : Nat) (d : Array α) (w : World) (pre seg post : List α), d.size = n → SB enc k w0 blk off d w → d.toList = pre ++ (seg ++ post) → pre.length = a → seg.length + a = b →
    Calls P 171 #[.slice (some ⟨blk, off, none⟩) n cap, .int .i64 a, .int .i64 b, .func (.func g) #[] cb] w fun e w' => e = .returned (.tuple #[]) ∧ ∃ d', d'.toList = pre ++ (isort (ltOf cf) seg ++ post) ∧ d'.size = n ∧ SB enc k w0 blk off d' w') :=
    fun a b d w pre seg post hn S T la lb => insertion_w L k aE zE enc cf g cb eg blk off cap a b n d0 d w0 w R hs hn hC O S (by omega) pre seg post T la lb
  have SYM : Aside (∀ (a m b : Nat) (d : Array α) (w : World) (pre U V post : List α), d.size = n → a < m → m < b → b ≤ n → SB enc k w0 blk off d w → Two (ltOf cf) a m b pre U V post d →
    Calls P 172 #[.slice (some ⟨blk, off, none⟩) n cap, .int .i64 a, .int .i64 m, .int .i64 b, .func (.func g) #[] cb] w fun e w' => e = .returned (.tuple #[]) ∧ ∃ d', d'.toList = pre ++ (merge (ltOf cf) U V ++ post) ∧ d'.size = n ∧ SB enc k w0 blk off d' w') :=
    fun a m b d w pre U V post hn h1 h2 h3 S T => by
      have := symMerge_w L k aE zE enc cf g cb eg blk off cap n d0 w0 R hs hC O (by omega) (b - a) a m b d w (Nat.le_refl _) hn h1 h2 h3 S pre U V post T
      rw [hn] at this
      exact this
  have S0 : Aside (SB enc k w0 blk off d0 w0) := SB.start R.hH
  have P0 : Aside (Pass0 (ltOf cf) 20 d0.toList 0 d0) := Pass0.start 20 d0
  have HO := aside O
  have HL := aside hl
  have HS0 := aside hs
  clear hC O R hs L hl eg
  go_enter FG, Tryz.ntmps156
  go_wp2_with fail
  go_loopg [7, 8] n (fun kx s7 s8 wr => ∃ (a : Nat) (d : Array α), s7 = .int .i64 a ∧ s8 = .int .i64 ((a + 20 : Nat) : Int) ∧ a ≤ n ∧ Aside (kx = n - a) ∧ Aside (d.size = n) ∧ Aside (SB enc k w0 blk off d wr) ∧ Aside (Pass0 (ltOf cf) 20 d0.toList a d))
  case atStart => exact ⟨0, d0, rfl, rfl, Nat.zero_le _, rfl, HS0, S0, P0⟩
  case round =>
    clear S0 P0 HS0
    obtain ⟨a, d, rfl, rfl, han, HK, HN, S1, HP⟩ := hrel
    by_cases hb : a + 20 ≤ n
    · obtain ⟨pre, seg, post, hd, hpre, hseg, hnext⟩ := HP.out.next (by rw [HL.out]; exact hb)
      have hc := INS.out a (a + 20) d wr pre seg post HN.out S1.out hd hpre (by omega)
      have HC2 := aside hc
      have HX := aside hnext
      clear hc hnext hd hseg hpre
      go_wp2_with (go_at_fn 171; refine HC2.out.mono ?_; rintro e1 w1 ⟨rfl, d1, hd1, hd2, hd3⟩)
      have Q1 := aside (HX.out d1 hd1)
      have Q2 := aside hd2
      have Q3 := aside hd3
      clear hd1 hd2 hd3
      go_roundg (n - (a + 20))
      case measure => have := HK.out; omega
      case rel => exact ⟨a + 20, d1, by go_num, by go_num, hb, rfl, Q2, Q3, Q1⟩
    · obtain ⟨pre, seg, hd, hpre, hseg, hnext⟩ := HP.out.last (by rw [HL.out]; exact hb)
      have hc := INS.out a n d wr pre seg [] HN.out S1.out hd hpre (by have := HL.out; omega)
      have HC2 := aside hc
      have HX := aside hnext
      clear hc hnext hd hseg hpre
      go_wp2_with (go_at_fn 171; refine HC2.out.mono ?_; rintro e1 w1 ⟨rfl, d1, hd1, hd2, hd3⟩)
      have Q1 : Aside (Blk (ltOf cf) 20 d0.toList d1.toList) := HX.out d1 hd1
      have Q2 := aside hd2
      have Q3 := aside hd3
      clear hd1 hd2 hd3 HX HC2 HP S1 HN HK
      go_loopg [6, 7, 8] (n - 20) (fun kx s6 s7 s8 wr2 => ∃ (s : Nat) (d : Array α), s6 = .int .i64 s ∧ 1 ≤ s ∧ s ≤ 2 * n + 20 ∧ Aside (kx = n - s) ∧ Aside (d.size = n) ∧ Aside (SB enc k w0 blk off d wr2) ∧ Aside (Blk (ltOf cf) s d0.toList d.toList))
      case atStart => exact ⟨20, d1, rfl, by omega, by omega, rfl, Q2, Q3, Q1⟩
      case round =>
        clear Q1 Q2 Q3
        obtain ⟨s, d, rfl, hs1, hs2, HK, HN, S1, HB⟩ := hrel
        by_cases hsn : s < n
        · have hsz' : (s : Int) < (n : Int) := by omega
          obtain ⟨wo, hwo⟩ : ∃ wo : World, wo = wr := ⟨_, rfl⟩
          subst hwo
          have P1 : Aside (Pass (ltOf cf) s d0.toList 0 d) := Pass.start HB.out
          go_wp2_with fail
          go_loopg [7, 8] n (fun kx s7 s8 wr2 => ∃ (a b : Nat) (d : Array α), s7 = .int .i64 a ∧ s8 = .int .i64 b ∧ a ≤ n ∧ b ≤ a + 2 * s ∧ a + 2 * s ≤ b ∧ Aside (kx = n - a) ∧ Aside (d.size = n) ∧ Aside (SB enc k w0 blk off d wr2) ∧ Aside (Pass (ltOf cf) s d0.toList a d))
          case atStart => exact ⟨0, 2 * s, d, rfl, by first | rfl | go_num | (congr 1; omega), Nat.zero_le _, by omega, by omega, rfl, HN, S1, P1⟩
          case round =>
            clear P1 HN S1 HB
            obtain ⟨a, b, d, rfl, rfl, han, hb1, hb2, HK2, HN, S1, HP⟩ := hrel
            obtain ⟨m, em, hm1, hm2⟩ : ∃ m : Nat, (a : Int) + (s : Int) = (m : Int) ∧ m ≤ a + s ∧ a + s ≤ m := ⟨a + s, by omega, by omega, by omega⟩
            obtain ⟨b2, eb2, hb3, hb4⟩ : ∃ b2 : Nat, (b : Int) + 2 * (s : Int) = (b2 : Int) ∧ b2 ≤ b + 2 * s ∧ b + 2 * s ≤ b2 := ⟨b + 2 * s, by omega, by omega, by omega⟩
            by_cases hb : b ≤ n
            · obtain ⟨pre, U, V, post, hT, hnext⟩ := HP.out.next HO.out (by rw [HL.out]; omega)
              rw [show a + s = m by omega, show a + 2 * s = b by omega] at hT
              rw [show a + 2 * s = b by omega] at hnext
              have hc := SYM.out a m b d wr pre U V post HN.out (by omega) (by omega) hb S1.out hT
              have HC2 := aside hc
              have HX := aside hnext
              clear hc hnext hT
              go_wp2_with (go_at_fn 172; refine HC2.out.mono ?_; rintro e1 w1 ⟨rfl, d1, hd1, hd2, hd3⟩)
              have Q1 := aside (HX.out d1 hd1)
              have Q2 := aside hd2
              have Q3 := aside hd3
              clear hd1 hd2 hd3
              go_roundg (n - b)
              case measure => have := HK2.out; omega
              case rel => exact ⟨b, b2, d1, rfl, rfl, hb, by omega, by omega, rfl, Q2, Q3, Q1⟩
            · by_cases hm : m < n
              · obtain ⟨pre, U, V, hT, hnext⟩ := HP.out.last HO.out (by rw [HL.out]; omega) (by rw [HL.out]; omega)
                rw [HL.out, show a + s = m by omega] at hT
                have hc := SYM.out a m n d wr pre U V [] HN.out (by omega) hm (Nat.le_refl _) S1.out hT
                have HC2 := aside hc
                have HX := aside hnext
                clear hc hnext hT
                go_wp2_with (go_at_fn 172; refine HC2.out.mono ?_; rintro e1 w1 ⟨rfl, d1, hd1, hd2, hd3⟩)
                have Q1 := aside (HX.out d1 hd1)
                have Q2 := aside hd2
                have Q3 := aside hd3
                clear hd1 hd2 hd3
                go_roundg (n - 2 * s)
                case measure => have := HK.out; omega
                case rel => exact ⟨2 * s, d1, by first | go_num | (congr 1; omega), by omega, by omega, rfl, Q2, Q3, Q1⟩
              · have Q1 := aside (HP.out.none (by rw [HL.out]; omega) (by rw [HL.out]; omega))
                go_wp2_with fail
                go_roundg (n - 2 * s)
                case measure => have := HK.out; omega
                case rel => exact ⟨2 * s, d, by first | go_num | (congr 1; omega), by omega, by omega, rfl, HN, S1, Q1⟩
        · go_wp2_with fail
          go_end0
          exact ⟨rfl, d, HB.out.whole (by rw [HL.out]; omega), HN.out, S1.out⟩
end Go.Proofs.YtcmiehddjgfjaaaGreat.St.GSp
namespace Go.Proofs.YtcmiehddjgfjaaaGreat.St
open Go.Proofs Go.Shelf Go.RowKit Go.Lib Go.Sort Go.Proofs.YtcmiehddjgfjaaaGreat.Stable Go.Proofs.YtcmiehddjgfjaaaGreatW.PrintWords Go.Proofs.YtcmiehddjgfjaaaGreatW.PrintLast Go.Proofs.YtcmiehddjgfjaaaGreatW.PrintMore
section
variable {α : Type} [Inhabited α] {enc : α → List Value} {k : Nat} {w0 W : World} {blk off : Nat} {dk : Array α}
theorem SB.heap (h : SB enc k w0 blk off dk W) : ∃ os : Array Obj, W.heap = (w0.heap.modify blk (onCells (putCells id off (flatK enc k dk)))) ++ os := by
  obtain ⟨n, m, os, h⟩ := h
  refine ⟨os, ?_⟩
  have : (undrawn W n).heap = (grow (putRowK enc k (Sort.ahead w0 m) blk off dk) os).heap := by rw [h]; rfl
  exact this
theorem SB.block (h : SB enc k w0 blk off dk W) (hb : blk < w0.heap.size) : W.heap[blk]? = (w0.heap[blk]?).map (onCells (putCells id off (flatK enc k dk))) := by
  obtain ⟨os, h⟩ := h.heap
  rw [h, Array.getElem?_append_left (by simpa using hb), Array.getElem?_modify, if_pos rfl]
theorem SB.other (h : SB enc k w0 blk off dk W) {b : Nat} (hb : b < w0.heap.size) (hne : b ≠ blk) : W.heap[b]? = w0.heap[b]? := by
  obtain ⟨os, h⟩ := h.heap
  rw [h, Array.getElem?_append_left (by simpa using hb), Array.getElem?_modify, if_neg (fun e => hne e.symm)]
theorem SB.belowB (h : SB enc k w0 blk off dk W) {B : Nat} (hB : B ≤ blk) (hb : blk < w0.heap.size) : Below B w0 W := by
  have hh := h.heap
  have ho : ∀ b, b < B → W.heap[b]? = w0.heap[b]? := fun b hlt => h.other (by omega) (by omega)
  obtain ⟨n, m, os, h⟩ := h
  have h1 : (undrawn W n).os = w0.os := by rw [h]; rfl
  have h2 : (undrawn W n).tape = w0.tape := by rw [h]; rfl
  have h3 : (undrawn W n).output = w0.output := by rw [h]; rfl
  obtain ⟨os', hh⟩ := hh
  exact ⟨h1, h2, h3, by rw [hh]; simp, ho⟩
end
theorem flat_seg {α : Type} [Inhabited α] {enc : α → List Value} {k : Nat} (hk : ∀ x, (enc x).length = k) (d : Array α) (j : Nat) (hj : j < d.size) : ((flatK enc k d).toList.drop (j * k)).take k = enc d[j]! := by
  have hl := hk d[j]!
  have hb : j * k + k ≤ d.size * k := rowK_bnd d k j hj
  apply List.ext_getElem
  · rw [List.length_take, List.length_drop, Array.length_toList, size_flatK, hl]; omega
  · intro t h1 h2
    rw [hl] at h2
    rw [List.getElem_take, List.getElem_drop]
    have e := get_flatK enc k d (j * k + t) (by omega)
    rw [getElem!_pos _ (j * k + t) (by rw [size_flatK]; omega)] at e
    have e1 : (j * k + t) / k = j := by rw [Nat.mul_comm, Nat.mul_add_div (by omega), Nat.div_eq_of_lt h2]; omega
    have e2 : (j * k + t) % k = t := by rw [Nat.mul_comm, Nat.mul_add_mod, Nat.mod_eq_of_lt h2]
    rw [e1, e2] at e
    rw [Array.getElem_toList, e, getElem!_pos _ t (by rw [hl]; exact h2)]
theorem put_take (F cur : Array Value) (h : F.size ≤ cur.size) : (putCells id 0 F cur).toList.take F.size = F.toList := by
  apply List.ext_getElem
  · rw [List.length_take, Array.length_toList, Array.length_toList]; simp [putCells]; omega
  · intro t h1 h2
    rw [Array.length_toList] at h2
    rw [List.getElem_take, Array.getElem_toList, Array.getElem_toList]
    simp only [putCells, Array.getElem_mapIdx]
    rw [if_pos ⟨by omega, by omega⟩]
    rw [Nat.sub_zero, getElem!_pos F t h2]; rfl
/-- An element, with the cells that bear it. -/
abbrev El {α : Type} (d : Kd α) (w : World) (base : Nat) (ok : Nat → Prop) (g : Nat) := {p : α × List Value // d.M w base (fun k => ok k ∧ some k ≠ some g) p.1 p.2}
def elv {α : Type} {d : Kd α} {w : World} {base : Nat} {ok : Nat → Prop} {g : Nat} (x : El d w base ok g) : α := x.1.1
def elc {α : Type} {d : Kd α} {w : World} {base : Nat} {ok : Nat → Prop} {g : Nat} (x : El d w base ok g) : List Value := x.1.2
section
variable {α : Type} {d : Kd α} {e : Nat} {w0 W : World} {base : Nat} {ok : Nat → Prop} {g n c : Nat} {xs : List α}
theorem elc_len (x : El d w0 base ok g) : (elc x).length = d.sz := d.K_len (d.K_of_M x.2)
theorem elc_one (x : El d w0 base ok g) : ∀ v ∈ elc x, v.oneCell' = true := d.K_one (d.K_of_M x.2)
theorem row_in (h : Kd.R d e w0 base ok (.slice (some ⟨g, 0, none⟩) n c) xs) (hx : xs ≠ []) (hsz : 0 < d.sz) : ∃ (_ : Inhabited (El d w0 base ok g)) (d0 : Array (El d w0 base ok g)), d0.toList.map elv = xs ∧ d0.size = n ∧ base ≤ g ∧ RowK elc d.sz w0 g 0 d0 := by
  obtain ⟨h0, inner, hown, hr⟩ := h
  obtain ⟨hil, ho⟩ := hown
  rcases ho with ⟨hv, hz⟩ | ⟨g', cap', cur, hv, hb, hh, hic, hcm, hcs, htk⟩
  · exact absurd (List.eq_nil_of_length_eq_zero hz) hx
  injection hv with ha h2 h3
  injection ha with ha
  injection ha with hg'
  subst hg'; subst h3; subst h2
  have hM : ∀ (j : Fin xs.length), d.M w0 base (fun k => ok k ∧ some k ≠ some g) xs[j] ((inner.drop (j * d.sz)).take d.sz) := fun j => hr.2 j xs[j] (by simp)
  obtain ⟨f, hf⟩ : ∃ f : Fin xs.length → El d w0 base ok g, ∀ j, (f j).1 = (xs[j], (inner.drop (j * d.sz)).take d.sz) := ⟨fun j => ⟨(xs[j], (inner.drop (j * d.sz)).take d.sz), hM j⟩, fun j => rfl⟩
  have h0l : 0 < xs.length := List.length_pos_iff.2 hx
  obtain ⟨I, _⟩ : ∃ I : Inhabited (El d w0 base ok g), True := ⟨⟨f ⟨0, h0l⟩⟩, trivial⟩
  have hsize : (Array.ofFn f).size = xs.length := by simp
  refine ⟨I, Array.ofFn f, ?_, hsize, hb, elc_len, elc_one, ?_, (Array.getElem?_eq_some_iff.1 hh).1⟩
  · apply List.ext_getElem
    · simp
    · intro i h1 h2
      simp [elv, hf]
  · intro j hj
    rw [size_flatK, hsize] at hj
    have hjc : j < cur.size := by
      rw [hcs]
      have := Nat.mul_le_mul_right d.sz hic
      omega
    refine ⟨?_, blk_frozen hh _⟩
    rw [Nat.zero_add, cell_of_row w0 g j cur e (0, 0) hh, get_flatK _ _ _ _ (by rw [hsize]; exact hj)]
    have hdiv : j / d.sz < xs.length := Nat.div_lt_of_lt_mul (by rw [Nat.mul_comm]; exact hj)
    rw [getElem!_pos (Array.ofFn f) (j / d.sz) (by simpa using hdiv)]
    have hfe : (Array.ofFn f)[j / d.sz]'(by simpa using hdiv) = f ⟨j / d.sz, hdiv⟩ := by simp
    rw [hfe]
    show _ = some (id ((elc (f ⟨j / d.sz, hdiv⟩))[j % d.sz]!))
    have hm : j % d.sz < d.sz := Nat.mod_lt _ hsz
    rw [getElem!_pos _ (j % d.sz) (by rw [elc_len]; exact hm)]
    have hec : elc (f ⟨j / d.sz, hdiv⟩) = (inner.drop (j / d.sz * d.sz)).take d.sz := by unfold elc; rw [hf]
    simp only [hec, List.getElem_take, List.getElem_drop, id]
    have hje : j / d.sz * d.sz + j % d.sz = j := by rw [Nat.mul_comm]; exact Nat.div_add_mod j d.sz
    have hin : inner[j]? = cur[j]? := by
      rw [← htk, List.getElem?_take, if_pos hj, Array.getElem?_toList]
    rw [← hin, List.getElem?_eq_getElem (by rw [hil]; exact hj)]
    simp only [hje]
theorem row_out [Inhabited (El d w0 base ok g)] (h : Kd.R d e w0 base ok (.slice (some ⟨g, 0, none⟩) n c) xs) (hx : xs ≠ []) {dk : Array (El d w0 base ok g)} (hn : dk.size = n) (hS : SB elc d.sz w0 g 0 dk W) :
    Kd.R d e W base ok (.slice (some ⟨g, 0, none⟩) n c) (dk.toList.map elv) ∧ ∀ B, B ≤ g → Below B w0 W := by
  obtain ⟨h0, inner, hown, hr⟩ := h
  obtain ⟨hil, ho⟩ := hown
  rcases ho with ⟨hv, hz⟩ | ⟨g', cap', cur, hv, hb, hh, hic, hcm, hcs, htk⟩
  · exact absurd (List.eq_nil_of_length_eq_zero hz) hx
  injection hv with ha h2 h3
  injection ha with ha
  injection ha with hg'
  subst hg'; subst h3; subst h2
  have hlt : g < w0.heap.size := (Array.getElem?_eq_some_iff.1 hh).1
  have hblk := hS.block hlt
  rw [hh] at hblk
  have hF : (flatK elc d.sz dk).size = xs.length * d.sz := by rw [size_flatK, hn]
  have hFc : (flatK elc d.sz dk).size ≤ cur.size := by rw [hF, hcs]; exact Nat.mul_le_mul_right _ hic
  have hlen : (dk.toList.map elv).length = xs.length := by rw [List.length_map, Array.length_toList, hn]
  refine ⟨⟨h0, (flatK elc d.sz dk).toList, ⟨by rw [Array.length_toList, hF, hlen], .inr ⟨g, c, putCells id 0 (flatK elc d.sz dk) cur, by rw [hlen], hb, hblk, by rw [hlen]; exact hic, hcm, by simp [putCells, hcs], by rw [hlen, ← hF]; exact put_take _ _ hFc⟩⟩, by rw [Array.length_toList, hF, hlen], fun j p hp => ?_⟩, fun B hB => hS.belowB hB hlt⟩
  have hj : j < dk.size := by
    have := (List.getElem?_eq_some_iff.1 hp).1
    rw [hlen] at this; omega
  rw [flat_seg elc_len dk j hj]
  have hp' : elv dk[j]! = p := by
    rw [List.getElem?_map, Array.getElem?_toList, Array.getElem?_eq_getElem hj] at hp
    rw [getElem!_pos dk j hj]
    simpa using hp
  subst hp'
  exact Kd.M_step dk[j]!.2 (fun k hk hlt' => hS.other hlt' (fun e => hk.2 (by rw [e]; rfl)))
end
theorem ltOf_map {α β : Type} (f : β → α) (lt : α → α → Bool) : ∀ u v : List β, (merge (fun a b => lt (f a) (f b)) u v).map f = merge lt (u.map f) (v.map f)
  | [], v => by rw [merge, List.map_nil, merge]
  | x :: u, [] => by rw [merge, List.map_nil, List.map_cons, merge]
  | x :: u, y :: v => by
    rw [merge, List.map_cons, List.map_cons, merge]
    split
    · rw [List.map_cons, ltOf_map f lt (x :: u) v]; rfl
    · rw [List.map_cons, ltOf_map f lt u (y :: v)]; rfl
theorem isort_map {α β : Type} (f : β → α) (lt : α → α → Bool) (l : List β) : (isort (fun a b => lt (f a) (f b)) l).map f = isort lt (l.map f) := by
  have : ∀ (l s : List β), (l.foldl (fun s x => merge (fun a b => lt (f a) (f b)) s [x]) s).map f = (l.map f).foldl (fun s x => merge lt s [x]) (s.map f) := by
    intro l
    induction l with
    | nil => intro s; rfl
    | cons x l ih => intro s; rw [List.foldl_cons, ih, ltOf_map]; rfl
  exact this l []
theorem ord_map {α β : Type} (f : β → α) {lt : α → α → Bool} (h : Stable.Ord lt) : Stable.Ord (fun a b : β => lt (f a) (f b)) :=
  ⟨fun a b c => h.trans _ _ _, fun z x y => h.skip _ _ _, fun a b => h.asym _ _⟩
end Go.Proofs.YtcmiehddjgfjaaaGreat.St
namespace Go.Proofs.YtcmiehddjgfjaaaGreat.St.GSp
open Go.Proofs Go.Shelf Go.RowKit Go.Lib Go.Sort Go.Proofs.YtcmiehddjgfjaaaGreat.Stable Go.Proofs.YtcmiehddjgfjaaaGreatW.PrintWords Go.Proofs.YtcmiehddjgfjaaaGreatW.PrintLast Go.Proofs.YtcmiehddjgfjaaaGreatW.PrintMore
theorem lays : StLays Tryz.prog where
  mixed := by kernel_rfl
  f30 := Tryz.func156
  f33 := Tryz.func171
  f34 := Tryz.func172
  f36 := Tryz.func178
  f37 := Tryz.func182
  e33 := enters_of Tryz.func171 (by kernel_rfl) rfl
  e34 := enters_of Tryz.func172 (by kernel_rfl) rfl
  e36 := enters_of Tryz.func178 (by kernel_rfl) rfl
  e37 := enters_of Tryz.func182 (by kernel_rfl) rfl
  t3 := Tryz.underlying3
  a3 := Tryz.isAgg3
  z3 := Tryz.sizeOf3
  v3 := Tryz.zeroValue3
  t4 := Tryz.underlying4
  a4 := Tryz.isAgg4
  z4 := Tryz.sizeOf4
  v4 := Tryz.zeroValue4
  t53 := Tryz.underlying141
  a53 := Tryz.isAgg141
  z53 := Tryz.sizeOf141
  t22 := Tryz.underlying22
  a22 := Tryz.isAgg22
  z22 := Tryz.sizeOf22
  t45 := Tryz.underlying99
  a45 := Tryz.isAgg99
  z45 := Tryz.sizeOf99
theorem ins_none (A : Option Addr) (c g : Nat) (cb : Array Value) (w : World) :
    Calls Tryz.prog 171 #[.slice A 0 c, .int .i64 0, .int .i64 0, .func (.func g) #[] cb] w fun e w' => e = .returned (.tuple #[]) ∧ w' = w := by
  go_enter Tryz.func171, Tryz.ntmps171
  go_wp2_with fail
  go_loopg [8, 9] 0 (fun kq v8 v9 w' => v8 = .int .i64 1 ∧ w' = w)
  case atStart => exact ⟨rfl, rfl⟩
  case round =>
    obtain ⟨rfl, rfl⟩ := hrel
    go_wp2
    go_end0; exact ⟨rfl, rfl⟩
theorem stable_none (A : Option Addr) (c g : Nat) (cb : Array Value) (w : World) :
    Calls Tryz.prog 156 #[.slice A 0 c, .int .i64 0, .func (.func g) #[] cb] w fun e w' => e = .returned (.tuple #[]) ∧ w' = w := by
  go_enter Tryz.func156, Tryz.ntmps156
  go_wp2_with fail
  go_loopg [7, 8] 0 (fun kq v7 v8 w' => v7 = .int .i64 0 ∧ v8 = .int .i64 20 ∧ w' = w)
  case atStart => exact ⟨rfl, rfl, rfl⟩
  case round =>
    obtain ⟨rfl, rfl, rfl⟩ := hrel
    go_wp2_with fail
    refine (ins_none A c g cb wr).mono ?_
    rintro e w' ⟨rfl, rfl⟩
    go_wp2_with fail
    go_loopg [6, 7, 8, 9] 0 (fun kq v6 v7 v8 v9 w1 => v6 = .int .i64 20 ∧ w1 = w')
    case atStart => exact ⟨rfl, rfl⟩
    case round =>
      obtain ⟨rfl, rfl⟩ := hrel
      go_wp2
      go_end0; exact ⟨rfl, rfl⟩
/-- 'cmp' tells the order of two elements, in whatever world in which they can be read. -/
def CmpTells {α : Type} (d : Kd α) (g : Nat) (cb : Array Value) (cmp : α → α → Int) : Prop :=
  ∀ (W : World) (base : Nat) (ok : Nat → Prop) (x y : α) (cs ds : List Value), d.M W base ok x cs → d.M W base ok y ds →
    Calls Tryz.prog g (#[.agg cs.toArray, .agg ds.toArray] ++ cb) W fun e w' => e = .returned (.int .i64 (cmp x y)) ∧ Below W.heap.size W w'
theorem stable_R {α : Type} (d : Kd α) (hz : 0 < d.sz) (zE : ∀ w, (Go.sizeOf 39).run Tryz.prog w = .ok d.sz w) (cmp : α → α → Int) (g : Nat) (cb : Array Value) (eg : ∀ args w, (callFunc g args).run Tryz.prog w = .ok (.enter g args) w)
    (O : Stable.Ord (ltOf cmp)) (hcmp : CmpTells d g cb cmp) {w0 : World} {base : Nat} {ok : Nat → Prop} {v : Value} {xs : List α} (h : Kd.R d 39 w0 base ok v xs) (hl : xs.length < 1152921504606846976) :
    Calls Tryz.prog 156 #[v, .int .i64 xs.length, .func (.func g) #[] cb] w0 fun e w' => e = .returned (.tuple #[]) ∧ Kd.R d 39 w' base ok v (isort (ltOf cmp) xs) ∧ Below base w0 w' := by
  obtain ⟨A, c, rfl⟩ := Kd.R_slice h
  by_cases hx : xs = []
  · subst hx
    refine (stable_none A c g cb w0).mono ?_
    rintro e w' ⟨rfl, rfl⟩
    exact ⟨rfl, h, Below.refl _ _⟩
  · obtain ⟨ad, _, he⟩ := Kd.R_slice1 h (List.length_pos_iff.2 hx)
    injection he with he1 _ _
    subst he1
    obtain ⟨blk, rfl⟩ := Kd.R_head h
    obtain ⟨I, d0, hm, hs, hb, R⟩ := row_in h hx hz
    have hC : CmpB Tryz.prog g cb (elc (d := d) (w := w0) (base := base) (ok := ok) (g := blk)) d.sz (fun x y => cmp (elv x) (elv y)) blk 0 xs.length w0 := by
      intro dk W hdk hS x y
      exact hcmp W base _ _ _ _ _ (Kd.M_step x.2 (fun k hk hlt => hS.other hlt (fun e => hk.2 (by rw [e])))) (Kd.M_step y.2 (fun k hk hlt => hS.other hlt (fun e => hk.2 (by rw [e]))))
    have O' : Stable.Ord (ltOf (fun x y : El d w0 base ok blk => cmp (elv x) (elv y))) := ord_map elv O
    refine (stable_w lays d.sz Tryz.isAgg39 zE elc (fun x y => cmp (elv x) (elv y)) g cb eg blk 0 c xs.length d0 w0 R hs hC O' hl).mono ?_
    rintro e w' ⟨rfl, d', hd', hn, hS⟩
    obtain ⟨h1, h2⟩ := row_out h hx hn hS
    have e1 : d'.toList.map elv = isort (ltOf cmp) xs := by
      rw [hd', ← hm]
      exact isort_map elv (ltOf cmp) d0.toList
    rw [e1] at h1
    exact ⟨rfl, h1, h2 base hb⟩
/-- slices.SortStableFunc. -/
theorem sortStable_R {α : Type} (d : Kd α) (hz : 0 < d.sz) (zE : ∀ w, (Go.sizeOf 39).run Tryz.prog w = .ok d.sz w) (cmp : α → α → Int) (g : Nat) (cb : Array Value) (eg : ∀ args w, (callFunc g args).run Tryz.prog w = .ok (.enter g args) w)
    (O : Stable.Ord (ltOf cmp)) (hcmp : CmpTells d g cb cmp) {w0 : World} {base : Nat} {ok : Nat → Prop} {v : Value} {xs : List α} (h : Kd.R d 39 w0 base ok v xs) (hl : xs.length < 1152921504606846976) :
    Calls Tryz.prog 114 #[v, .func (.func g) #[] cb] w0 fun e w' => e = .returned (.tuple #[]) ∧ Kd.R d 39 w' base ok v (isort (ltOf cmp) xs) ∧ Below base w0 w' := by
  have hc := stable_R d hz zE cmp g cb eg O hcmp h hl
  obtain ⟨A, c, rfl⟩ := Kd.R_slice h
  have HC := aside hc
  clear hc h hcmp O eg zE
  go_enter Tryz.func114, Tryz.ntmps114
  go_wp2_with fail
  refine HC.out.mono ?_
  rintro e w' ⟨rfl, h1, h2⟩
  go_wp2
  go_end0
  exact ⟨rfl, h1, h2⟩
end Go.Proofs.YtcmiehddjgfjaaaGreat.St.GSp
namespace Go.Proofs.YtcmiehddjgfjaaaGreat.I
open Go.Proofs Go.Shelf Go.RowKit Go.Lib Go.Proofs.YtcmiehddjgfjaaaGreatW.PrintWords Go.Proofs.YtcmiehddjgfjaaaGreatW.PrintLast Go.Proofs.YtcmiehddjgfjaaaGreatW.PrintMore
/-- Where the first stands that is so. -/
def idxP {α : Type} (p : α → Bool) : List α → Nat → Int
  | [], _ => -1
  | x :: l, i => if p x = true then (i : Int) else idxP p l (i + 1)
theorem idxP_ge {α : Type} (p : α → Bool) : ∀ (l : List α) (i : Nat), decide (0 ≤ idxP p l i) = l.any p
  | [], i => by simp [idxP]
  | x :: l, i => by
    rw [idxP, List.any_cons]
    by_cases h : p x = true
    · rw [if_pos h, h]; simp
    · rw [if_neg h, idxP_ge p l (i + 1)]
      simp at h
      rw [h, Bool.false_or]
theorem addr_add (a : Addr) (l j : Nat) : (a.add l).add j = a.add (l + j) := by
  unfold Addr.add
  by_cases h1 : l = 0
  · subst h1; simp
  · by_cases h2 : j = 0
    · subst h2; simp
    · simp [h1, h2, Nat.add_assoc]
variable {P : Program} {ρ : Ren} {α : Type}
theorem indexFunc (L : SlLaysH0.n6 P ρ) (d : Kd α) (z : α) (aE : ∀ w, (isAgg (ρ.t 23)).run P w = .ok true w) (zE : ∀ w, (Go.sizeOf (ρ.t 23)).run P w = .ok d.sz w) (p : α → Bool) (g : Nat) (lb : Array Value) (eg : ∀ args w, (callFunc g args).run P w = .ok (.enter g args) w)
    (A : Option Addr) (c : Nat) (xs : List α) (w : World) (hr : Kd.C d w A xs.length xs)
    (hp : ∀ x ∈ xs, ∀ w1 cs, Below w.heap.size w w1 → d.K w1 x cs → Calls P g (#[.agg cs.toArray] ++ lb) w1 fun e w' => e = .returned (.bool (p x)) ∧ Below w1.heap.size w1 w') :
    Calls P (ρ.f 6) #[.slice A xs.length c, .func (.func g) #[] lb] w fun e w' => e = .returned (.int .i64 (idxP p xs 0)) ∧ Below w.heap.size w w' := by
  have hm : xs.length ≤ 9223372036854775807 := Kd.C_max hr
  have mixed := L.mixed; have t0 := L.t0; have a0 := L.a0; have z0 := L.z0; have v0 := L.v0; have t3 := L.t3; have a3 := L.a3; have z3 := L.z3; have v3 := L.v3; have t4 := L.t4; have a4 := L.a4; have z4 := L.z4; have v4 := L.v4; have t22 := L.t22; have a22 := L.a22; have z22 := L.z22; have v22 := L.v22; have t25 := L.t25; have a25 := L.a25; have z25 := L.z25; have v25 := L.v25
  have hrow : ∀ (W : World), Below w.heap.size w W → ∀ j, j < xs.length → ∃ (ad : Addr) (cs : List Value), A = some ad ∧ Sem.run P (loadCellsFrom (ad.add (j * d.sz)) 0 d.sz #[]) W = .ok cs.toArray W ∧ Calls P g (#[.agg cs.toArray] ++ lb) W fun e w' => e = .returned (.bool (p (xs.getD j z))) ∧ Below W.heap.size W w' := fun W hW j hj => by
    obtain ⟨ad, cs, e, hl, hK, hc⟩ := Kd.C_get (Kd.C_below hr hW) z (j : Int) (by omega) (by omega)
    rw [Int.toNat_natCast] at hK hc
    refine ⟨ad, cs, e, run_loadCellsFrom_list P _ _ cs d.sz hl (fun i v hi => by rw [addr_add]; exact hc i v hi), hp _ ?_ W cs hW hK⟩
    rw [List.getD_eq_getElem?_getD, List.getElem?_eq_getElem hj]; exact List.getElem_mem hj
  have HROW := Sd.mk hrow
  clear hrow hp hr
  obtain ⟨_, _, FG⟩ := L.f6
  go_enter FG, SlBodyH.n6_ntmps ρ
  go_wp2
  go_loopg [5, 8] xs.length (fun gg _ s8 wr => ∃ kk : Nat, kk ≤ xs.length ∧ s8 = .int .i64 kk ∧ Sd (gg = xs.length - kk) ∧ Sd (idxP p xs 0 = idxP p (xs.drop kk) kk) ∧ Sd (Below w.heap.size w wr))
  case atStart => exact ⟨0, Nat.zero_le _, rfl, ⟨rfl⟩, ⟨rfl⟩, ⟨Below.refl _ _⟩⟩
  case round =>
    obtain ⟨kk, hkk, rfl, HK, HT, HB⟩ := hrel
    by_cases hlt : kk < xs.length
    · have hltz : (kk : Int) < (xs.length : Int) := by omega
      obtain ⟨ad, cs, rfl, l2, hcall⟩ := HROW.out wr HB.out kk hlt
      have hdr : idxP p (xs.drop kk) kk = if p (xs.getD kk z) = true then (kk : Int) else idxP p (xs.drop (kk + 1)) (kk + 1) := by
        rw [List.drop_eq_getElem_cons hlt, idxP, List.getD_eq_getElem?_getD, List.getElem?_eq_getElem hlt]; rfl
      have HD := Sd.mk hdr
      clear hdr
      generalize p (xs.getD kk z) = q at hcall HD
      cases q with
      | true =>
        have HT2 := Sd.mk (show idxP p xs 0 = (kk : Int) from by rw [HT.out, HD.out, if_pos rfl])
        go_wp2_with (go_at_fn g; refine hcall.mono ?_; rintro e w' ⟨rfl, hb'⟩; have HB1 := Sd.mk (HB.out.trans (hb'.mono HB.out.size)); clear hb')
        go_ret
        exact ⟨by rw [HT2.out]; rfl, HB1.out⟩
      | false =>
        have HT2 := Sd.mk (show idxP p xs 0 = idxP p (xs.drop (kk + 1)) (kk + 1) from by rw [HT.out, HD.out, if_neg (by simp)])
        go_wp2_with (go_at_fn g; refine hcall.mono ?_; rintro e w' ⟨rfl, hb'⟩; have HB1 := Sd.mk (HB.out.trans (hb'.mono HB.out.size)); clear hb')
        go_roundg (xs.length - (kk + 1))
        case measure => have := HK.out; omega
        case rel => exact ⟨kk + 1, by omega, by go_num, ⟨rfl⟩, ⟨HT2.out⟩, HB1⟩
    · have HT2 := Sd.mk (show idxP p xs 0 = -1 from by rw [HT.out, List.drop_of_length_le (by omega)]; rfl)
      go_wp2
      go_ret
      exact ⟨by rw [HT2.out]; rfl, HB.out⟩
theorem containsFunc (L : SlLaysH0.n8 P ρ) (d : Kd α) (z : α) (aE : ∀ w, (isAgg (ρ.t 23)).run P w = .ok true w) (zE : ∀ w, (Go.sizeOf (ρ.t 23)).run P w = .ok d.sz w) (p : α → Bool) (g : Nat) (lb : Array Value) (eg : ∀ args w, (callFunc g args).run P w = .ok (.enter g args) w)
    (A : Option Addr) (c : Nat) (xs : List α) (w : World) (hr : Kd.C d w A xs.length xs)
    (hp : ∀ x ∈ xs, ∀ w1 cs, Below w.heap.size w w1 → d.K w1 x cs → Calls P g (#[.agg cs.toArray] ++ lb) w1 fun e w' => e = .returned (.bool (p x)) ∧ Below w1.heap.size w1 w') :
    Calls P (ρ.f 8) #[.slice A xs.length c, .func (.func g) #[] lb] w fun e w' => e = .returned (.bool (xs.any p)) ∧ Below w.heap.size w w' := by
  rw [← idxP_ge p xs 0]
  have hi := indexFunc { L with } d z aE zE p g lb eg A c xs w hr hp
  generalize idxP p xs 0 = r at hi
  have HI := Sd.mk hi
  clear hi hp hr
  have mixed := L.mixed; have t0 := L.t0; have a0 := L.a0; have z0 := L.z0; have v0 := L.v0; have t3 := L.t3; have a3 := L.a3; have z3 := L.z3; have v3 := L.v3; have t4 := L.t4; have a4 := L.a4; have z4 := L.z4; have v4 := L.v4; have t22 := L.t22; have a22 := L.a22; have z22 := L.z22; have v22 := L.v22; have t25 := L.t25; have a25 := L.a25; have z25 := L.z25; have v25 := L.v25
  have e6 : ∀ args w, (callFunc (ρ.f 6) args).run P w = .ok (.enter (ρ.f 6) args) w := L.f6.enters rfl
  obtain ⟨_, _, FG⟩ := L.f8
  go_enter FG, SlBodyH.n8_ntmps ρ
  go_wp2_with (go_at_fn (ρ.f 6); refine HI.out.mono ?_; rintro e w' ⟨rfl, hb'⟩)
  go_ret
  exact ⟨rfl, hb'⟩
end Go.Proofs.YtcmiehddjgfjaaaGreat.I
namespace Go.Proofs.YtcmiehddjgfjaaaGreat.A
open Go.RowKit Go.Proofs.YtcmiehddjgfjaaaGreatW.PrintWords Go.Proofs.YtcmiehddjgfjaaaGreatW.PrintLast Go.Proofs.YtcmiehddjgfjaaaGreatW.PrintMore
def layPoint_ren : Go.Shelf.Ren := ⟨fun | 6 => 72 | 8 => 31 | n => n, fun | 22 => 22 | 23 => 39 | 25 => 66 | n => n, fun | n => n⟩
theorem layPoint : Go.Proofs.SlLaysH0.n8 Tryz.prog layPoint_ren := {
  mixed := by kernel_rfl
  f6 := ⟨Tryz.f72.name, by decide, Tryz.func72.trans (congrArg some (by kernel_rfl))⟩
  f8 := ⟨Tryz.f31.name, by decide, Tryz.func31.trans (congrArg some (by kernel_rfl))⟩
  t0 := Tryz.underlying0
  a0 := Tryz.isAgg0
  z0 := Tryz.sizeOf0
  v0 := Tryz.zeroValue0
  t3 := Tryz.underlying3
  a3 := Tryz.isAgg3
  z3 := Tryz.sizeOf3
  v3 := Tryz.zeroValue3
  t4 := Tryz.underlying4
  a4 := Tryz.isAgg4
  z4 := Tryz.sizeOf4
  v4 := Tryz.zeroValue4
  t22 := Tryz.underlying22
  a22 := Tryz.isAgg22
  z22 := Tryz.sizeOf22
  v22 := Tryz.zeroValue22
  t25 := Tryz.underlying66
  a25 := Tryz.isAgg66
  z25 := Tryz.sizeOf66
  v25 := Tryz.zeroValue66 }
theorem containsPoint (p : S39 → Bool) (g : Nat) (lb : Array Value) (eg : ∀ args w, (callFunc g args).run Tryz.prog w = .ok (.enter g args) w) (A : Option Addr) (c : Nat) (xs : List S39) (w : World) (hr : Kd.C k39 w A xs.length xs)
    (hp : ∀ x ∈ xs, ∀ w1 cs, Below w.heap.size w w1 → k39.K w1 x cs → Calls Tryz.prog g (#[.agg cs.toArray] ++ lb) w1 fun e w' => e = .returned (.bool (p x)) ∧ Below w1.heap.size w1 w') :
    Calls Tryz.prog 31 #[.slice A xs.length c, .func (.func g) #[] lb] w fun e w' => e = .returned (.bool (xs.any p)) ∧ Below w.heap.size w w' :=
  Go.Proofs.YtcmiehddjgfjaaaGreat.I.containsFunc layPoint k39 z39 Tryz.isAgg39 Tryz.sizeOf39 p g lb eg A c xs w hr hp
theorem indexPoint (p : S39 → Bool) (g : Nat) (lb : Array Value) (eg : ∀ args w, (callFunc g args).run Tryz.prog w = .ok (.enter g args) w) (A : Option Addr) (c : Nat) (xs : List S39) (w : World) (hr : Kd.C k39 w A xs.length xs)
    (hp : ∀ x ∈ xs, ∀ w1 cs, Below w.heap.size w w1 → k39.K w1 x cs → Calls Tryz.prog g (#[.agg cs.toArray] ++ lb) w1 fun e w' => e = .returned (.bool (p x)) ∧ Below w1.heap.size w1 w') :
    Calls Tryz.prog 72 #[.slice A xs.length c, .func (.func g) #[] lb] w fun e w' => e = .returned (.int .i64 (Go.Proofs.YtcmiehddjgfjaaaGreat.I.idxP p xs 0)) ∧ Below w.heap.size w w' :=
  Go.Proofs.YtcmiehddjgfjaaaGreat.I.indexFunc { layPoint with } k39 z39 Tryz.isAgg39 Tryz.sizeOf39 p g lb eg A c xs w hr hp
def laySeries_ren : Go.Shelf.Ren := ⟨fun | 6 => 85 | 8 => 50 | n => n, fun | 22 => 33 | 23 => 37 | 25 => 76 | n => n, fun | n => n⟩
theorem laySeries : Go.Proofs.SlLaysH0.n8 Tryz.prog laySeries_ren := {
  mixed := by kernel_rfl
  f6 := ⟨Tryz.f85.name, by decide, Tryz.func85.trans (congrArg some (by kernel_rfl))⟩
  f8 := ⟨Tryz.f50.name, by decide, Tryz.func50.trans (congrArg some (by kernel_rfl))⟩
  t0 := Tryz.underlying0
  a0 := Tryz.isAgg0
  z0 := Tryz.sizeOf0
  v0 := Tryz.zeroValue0
  t3 := Tryz.underlying3
  a3 := Tryz.isAgg3
  z3 := Tryz.sizeOf3
  v3 := Tryz.zeroValue3
  t4 := Tryz.underlying4
  a4 := Tryz.isAgg4
  z4 := Tryz.sizeOf4
  v4 := Tryz.zeroValue4
  t22 := Tryz.underlying33
  a22 := Tryz.isAgg33
  z22 := Tryz.sizeOf33
  v22 := Tryz.zeroValue33
  t25 := Tryz.underlying76
  a25 := Tryz.isAgg76
  z25 := Tryz.sizeOf76
  v25 := Tryz.zeroValue76 }
theorem containsSeries (p : S37 → Bool) (g : Nat) (lb : Array Value) (eg : ∀ args w, (callFunc g args).run Tryz.prog w = .ok (.enter g args) w) (A : Option Addr) (c : Nat) (xs : List S37) (w : World) (hr : Kd.C k37 w A xs.length xs)
    (hp : ∀ x ∈ xs, ∀ w1 cs, Below w.heap.size w w1 → k37.K w1 x cs → Calls Tryz.prog g (#[.agg cs.toArray] ++ lb) w1 fun e w' => e = .returned (.bool (p x)) ∧ Below w1.heap.size w1 w') :
    Calls Tryz.prog 50 #[.slice A xs.length c, .func (.func g) #[] lb] w fun e w' => e = .returned (.bool (xs.any p)) ∧ Below w.heap.size w w' :=
  Go.Proofs.YtcmiehddjgfjaaaGreat.I.containsFunc laySeries k37 z37 Tryz.isAgg37 Tryz.sizeOf37 p g lb eg A c xs w hr hp
def layLabel_ren : Go.Shelf.Ren := ⟨fun | 6 => 151 | 8 => 102 | n => n, fun | 22 => 35 | 23 => 62 | 25 => 122 | n => n, fun | n => n⟩
theorem layLabel : Go.Proofs.SlLaysH0.n8 Tryz.prog layLabel_ren := {
  mixed := by kernel_rfl
  f6 := ⟨Tryz.f151.name, by decide, Tryz.func151.trans (congrArg some (by kernel_rfl))⟩
  f8 := ⟨Tryz.f102.name, by decide, Tryz.func102.trans (congrArg some (by kernel_rfl))⟩
  t0 := Tryz.underlying0
  a0 := Tryz.isAgg0
  z0 := Tryz.sizeOf0
  v0 := Tryz.zeroValue0
  t3 := Tryz.underlying3
  a3 := Tryz.isAgg3
  z3 := Tryz.sizeOf3
  v3 := Tryz.zeroValue3
  t4 := Tryz.underlying4
  a4 := Tryz.isAgg4
  z4 := Tryz.sizeOf4
  v4 := Tryz.zeroValue4
  t22 := Tryz.underlying35
  a22 := Tryz.isAgg35
  z22 := Tryz.sizeOf35
  v22 := Tryz.zeroValue35
  t25 := Tryz.underlying122
  a25 := Tryz.isAgg122
  z25 := Tryz.sizeOf122
  v25 := Tryz.zeroValue122 }
theorem containsLabel (p : S62 → Bool) (g : Nat) (lb : Array Value) (eg : ∀ args w, (callFunc g args).run Tryz.prog w = .ok (.enter g args) w) (A : Option Addr) (c : Nat) (xs : List S62) (w : World) (hr : Kd.C k62 w A xs.length xs)
    (hp : ∀ x ∈ xs, ∀ w1 cs, Below w.heap.size w w1 → k62.K w1 x cs → Calls Tryz.prog g (#[.agg cs.toArray] ++ lb) w1 fun e w' => e = .returned (.bool (p x)) ∧ Below w1.heap.size w1 w') :
    Calls Tryz.prog 102 #[.slice A xs.length c, .func (.func g) #[] lb] w fun e w' => e = .returned (.bool (xs.any p)) ∧ Below w.heap.size w w' :=
  Go.Proofs.YtcmiehddjgfjaaaGreat.I.containsFunc layLabel k62 z62 Tryz.isAgg62 Tryz.sizeOf62 p g lb eg A c xs w hr hp
theorem indexLabel (p : S62 → Bool) (g : Nat) (lb : Array Value) (eg : ∀ args w, (callFunc g args).run Tryz.prog w = .ok (.enter g args) w) (A : Option Addr) (c : Nat) (xs : List S62) (w : World) (hr : Kd.C k62 w A xs.length xs)
    (hp : ∀ x ∈ xs, ∀ w1 cs, Below w.heap.size w w1 → k62.K w1 x cs → Calls Tryz.prog g (#[.agg cs.toArray] ++ lb) w1 fun e w' => e = .returned (.bool (p x)) ∧ Below w1.heap.size w1 w') :
    Calls Tryz.prog 151 #[.slice A xs.length c, .func (.func g) #[] lb] w fun e w' => e = .returned (.int .i64 (Go.Proofs.YtcmiehddjgfjaaaGreat.I.idxP p xs 0)) ∧ Below w.heap.size w w' :=
  Go.Proofs.YtcmiehddjgfjaaaGreat.I.indexFunc { layLabel with } k62 z62 Tryz.isAgg62 Tryz.sizeOf62 p g lb eg A c xs w hr hp
/-- A world in which nothing that was has turned. -/
structure Bw (w0 : World) where
  w : World
  h : Below w0.heap.size w0 w
/-- A region that only reads and whose callees lay blocks at most: one walk, in the order of the text. -/
theorem wp_region_Bw {P : Program} {id : Nat} {Q : Exit → Act → World → Prop} {a : Act} {w : World} {l : List Oper} (hm : P.follows .mixedOrders = true) (hB : Region.lexB .any l.toArray = true)
    (h : wpQuiet P l.toArray (fun w' => ∃ p : Bw w, w' = p.w) (fun a' => ∀ w', (∃ p : Bw w, w' = p.w) → Q .normal a' w') l a) : (Code.region id l.toArray true).wp P Q a w :=
  wp_region_quiet (C := fun w' => ∃ p : Bw w, w' = p.w) hm hB ⟨⟨_, (Below.refl _ _).drew⟩, rfl⟩ (by simpa using h)
instance (w : World) : Inhabited (Bw w) := ⟨⟨w, Below.refl _ _⟩⟩
theorem Bw.at {P : Program} {f : Nat} {args : Array Value} {v : Value} {w0 : World} (p : Bw w0) (h : Calls P f args p.w fun e w' => e = .returned v ∧ Below p.w.heap.size p.w w') : Calls P f args p.w fun e w' => e = .returned v ∧ ∃ q : Bw w0, w' = q.w :=
  h.mono fun _ _ ⟨he, hb⟩ => ⟨he, ⟨_, p.h.trans (hb.mono p.h.size)⟩, rfl⟩
theorem Bw.cell {w0 : World} (p : Bw w0) {a : Addr} {v : Value} (h : w0.cell? a = some v) : p.w.cell? a = some v := pw_cell_below p.h h
theorem Bw.drawn {P : Program} {f : Nat} {args : Array Value} {v : Value} {w0 : World} (p : Bw w0) (h : Calls P f args p.w fun e w' => e = .returned v ∧ Drawn0 p.w w') : Calls P f args p.w fun e w' => e = .returned v ∧ ∃ q : Bw w0, w' = q.w :=
  h.mono fun _ _ ⟨he, hb⟩ => ⟨he, by obtain ⟨n, rfl⟩ := hb; exact ⟨⟨_, pbd p.h n⟩, rfl⟩⟩
theorem or_part (hi lo : Int) (g0 : 0 ≤ hi) (g1 : hi < 1000) (h0 : 0 ≤ lo) (h1 : lo < 18446744073709551616) : Go.bits .or .u64 (hi * 18014398509481984) (lo / 1024) = hi * 18014398509481984 + lo / 1024 := by
  obtain ⟨a, rfl⟩ := Int.eq_ofNat_of_zero_le g0
  obtain ⟨b, hb⟩ := Int.eq_ofNat_of_zero_le (show 0 ≤ lo / 1024 by omega)
  have hb2 : b < 2 ^ 54 := by have : (b : Int) < 18014398509481984 := by omega
                              have e : (2 : Nat) ^ 54 = 18014398509481984 := rfl
                              omega
  rw [hb, show ((a : Int) * 18014398509481984) = ((2 ^ 54 * a : Nat) : Int) by rw [Int.natCast_mul, Int.mul_comm]; rfl]
  rw [u64_or_nat _ _ (by have e : (2 : Nat) ^ 54 = 18014398509481984 := rfl; omega) (by have e : (2 : Nat) ^ 54 = 18014398509481984 := rfl; omega), ← Nat.two_pow_add_eq_or_of_lt hb2]
  simp
theorem and_zero (V : Int) (h0 : 0 ≤ V) (h1 : V < 18446744073709551616) (hm : V % 4294967296 = 0) : Go.bits .and .u64 V 4294967295 = 0 := by
  obtain ⟨a, rfl⟩ := Int.eq_ofNat_of_zero_le h0
  have e := u64_and_nat a 4294967295 (by omega) (by omega)
  have e2 : a &&& 4294967295 = a % 2 ^ 32 := Nat.and_two_pow_sub_one_eq_mod a 32
  rw [show (4294967295 : Int) = ((4294967295 : Nat) : Int) from rfl, e, e2]
  have : a % 2 ^ 32 = 0 := by have e : (2 : Nat) ^ 32 = 4294967296 := rfl; omega
  rw [this]; rfl
/-- The long division, two digits of 32 bits. -/
theorem long_div (N U u q1 r1 q0 r0 : Int) (hN : U * 4294967296 + u = N * 4194304) (h1 : U = q1 * 4194304000 + r1) (h2 : 0 ≤ r1) (h3 : r1 < 4194304000) (h4 : r1 * 4294967296 + u = q0 * 4194304000 + r0) (h5 : 0 ≤ r0) (h6 : r0 < 4194304000) :
    q1 * 4294967296 + q0 = N / 1000 ∧ r0 / 4194304 = N % 1000 := by
  have e : N * 4194304 = (q1 * 4294967296 + q0) * 4194304000 + r0 := by omega
  generalize q1 * 4294967296 + q0 = q at *
  omega
theorem len_1000 (w : World) : Calls Tryz.prog 179 #[.int .u64 1000] w fun e w' => e = .returned (.int .i64 10) ∧ w' = w := by
  go_enter Tryz.func179, Tryz.ntmps179
  go_wp2
  go_ret
  exact ⟨congrArg Ending.returned (congrArg (Value.int IntKind.i64) (by decide +kernel : (_ : Int) = 10)), rfl⟩
theorem zeros_1000 (w : World) : Calls Tryz.prog 174 #[.int .u64 1000] w fun e w' => e = .returned (.int .i64 54) ∧ w' = w := by
  go_enter Tryz.func174, Tryz.ntmps174
  go_wp2_with fail
  refine (len_1000 w).mono ?_
  rintro e w' ⟨rfl, rfl⟩
  go_wp2
  go_ret
  exact ⟨rfl, rfl⟩
theorem div_low (lo : Int) (w : World) (h0 : 0 ≤ lo) (h1 : lo < 18446744073709551616) : Calls Tryz.prog 164 #[.int .u64 0, .int .u64 lo, .int .u64 1000] w fun e w' => e = .returned (.tuple #[.int .u64 (lo / 1000), .int .u64 (lo % 1000)]) ∧ Drawn0 w w' := by
  go_enter Tryz.func164, Tryz.ntmps164
  go_wp2_with fail
  go_quiet (fail)
  go_wp2
  go_ret2
  exact ⟨by first | rfl | (simp; done), (Drawn0.refl w).step _⟩
theorem div_high (hi lo : Int) (w : World) (g0 : 0 < hi) (g1 : hi < 1000) (h0 : 0 ≤ lo) (h1 : lo < 18446744073709551616) : Calls Tryz.prog 164 #[.int .u64 hi, .int .u64 lo, .int .u64 1000] w fun e w' => e = .returned (.tuple #[.int .u64 ((hi * 18446744073709551616 + lo) / 1000), .int .u64 ((hi * 18446744073709551616 + lo) % 1000)]) ∧ Drawn0 w w' := by
  have z : (hi == 0) = false := by rw [beq_eq_false_iff_ne]; omega
  have ea : Go.bits .and .u64 18014398509481984000 4294967295 = 0 := and_zero _ (by omega) (by omega) (by omega)
  have eo := or_part hi lo (by omega) g1 h0 h1
  have eV : IntKind.u64.wrap (lo * 18014398509481984) = (lo % 1024) * 18014398509481984 := by rw [IntKind.wrap_u64]; omega
  have ev := and_zero ((lo % 1024) * 18014398509481984) (by omega) (by omega) (by omega)
  obtain ⟨U, hU⟩ : ∃ U, U = hi * 18014398509481984 + lo / 1024 := ⟨_, rfl⟩
  obtain ⟨V, hV⟩ : ∃ V, V = (lo % 1024) * 18014398509481984 := ⟨_, rfl⟩
  rw [← hU] at eo
  rw [← hV] at eV ev
  have U0 : 0 ≤ U := by omega
  have U1 : U < 18014398509481984000 := by omega
  have V0 : 0 ≤ V := by omega
  have V1 : V < 18446744073709551616 := by omega
  obtain ⟨u, hu⟩ : ∃ u, V / 4294967296 = u := ⟨_, rfl⟩
  have u0 : 0 ≤ u := by omega
  have u1 : u < 4294967296 := by omega
  obtain ⟨q1, hq⟩ : ∃ q1, U / 4194304000 = q1 := ⟨_, rfl⟩
  have q10 : 0 ≤ q1 := by omega
  have q11 : q1 < 4294967296 := by omega
  obtain ⟨r1, hr⟩ : ∃ r1, U - q1 * 4194304000 = r1 := ⟨_, rfl⟩
  have r10 : 0 ≤ r1 := by omega
  have r11 : r1 < 4194304000 := by omega
  obtain ⟨D, hD⟩ : ∃ D, D = r1 * 4294967296 + u := ⟨_, rfl⟩
  have D0 : 0 ≤ D := by omega
  have D1 : D < 18014398509481984000 := by omega
  obtain ⟨q0, hq0⟩ : ∃ q0, D / 4194304000 = q0 := ⟨_, rfl⟩
  have q00 : 0 ≤ q0 := by omega
  have q01 : q0 < 4294967296 := by omega
  obtain ⟨r0, hr0⟩ : ∃ r0, D - q0 * 4194304000 = r0 := ⟨_, rfl⟩
  have r00 : 0 ≤ r0 := by omega
  have r01 : r0 < 4194304000 := by omega
  have fin := long_div (hi * 18446744073709551616 + lo) U u q1 r1 q0 r0 (by omega) (by omega) r10 r11 (by omega) r00 r01
  have FIN := Sd.mk fin
  have w1 : IntKind.u64.wrap (U.tdiv 4194304000) = q1 := by rw [Int.tdiv_eq_ediv_of_nonneg U0, hq, IntKind.wrap_u64]; omega
  have w2 : IntKind.u64.wrap (q1 * 4194304000) = q1 * 4194304000 := by rw [IntKind.wrap_u64]; omega
  have w3 : IntKind.u64.wrap (U - q1 * 4194304000) = r1 := by rw [hr, IntKind.wrap_u64]; omega
  have w4 : IntKind.u64.wrap (D.tdiv 4194304000) = q0 := by rw [Int.tdiv_eq_ediv_of_nonneg D0, hq0, IntKind.wrap_u64]; omega
  have w5 : IntKind.u64.wrap (q0 * 4194304000) = q0 * 4194304000 := by rw [IntKind.wrap_u64]; omega
  have w6 : IntKind.u64.wrap (D - q0 * 4194304000) = r0 := by rw [hr0, IntKind.wrap_u64]; omega
  obtain ⟨x1, hx1⟩ : ∃ x1, IntKind.u64.wrap (U * 4294967296) = x1 := ⟨_, rfl⟩
  obtain ⟨x2, hx2⟩ : ∃ x2, IntKind.u64.wrap (x1 + u) = x2 := ⟨_, rfl⟩
  obtain ⟨x3, hx3⟩ : ∃ x3, IntKind.u64.wrap (q1 * 18014398509481984000) = x3 := ⟨_, rfl⟩
  have w7 : IntKind.u64.wrap (x2 - x3) = D := by
    rw [← hx2, ← hx1, ← hx3]; simp only [IntKind.wrap_u64]; omega
  obtain ⟨y1, hy1⟩ : ∃ y1, IntKind.u64.wrap (D * 4294967296) = y1 := ⟨_, rfl⟩
  have y10 : 0 ≤ y1 := by rw [← hy1, IntKind.wrap_u64]; omega
  have y11 : y1 < 18446744073709551616 := by rw [← hy1, IntKind.wrap_u64]; omega
  obtain ⟨y3, hy3⟩ : ∃ y3, IntKind.u64.wrap (q0 * 18014398509481984000) = y3 := ⟨_, rfl⟩
  have w8 : IntKind.u64.wrap (y1 - y3) = r0 * 4294967296 := by
    rw [← hy1, ← hy3]; simp only [IntKind.wrap_u64]; omega
  have w9 : r0 * 4294967296 / 18014398509481984 = r0 / 4194304 := by omega
  have wA : IntKind.u64.wrap (q1 * 4294967296) = q1 * 4294967296 := by rw [IntKind.wrap_u64]; omega
  have wB : IntKind.u64.wrap (q1 * 4294967296 + q0) = q1 * 4294967296 + q0 := by rw [IntKind.wrap_u64]; omega
  clear hU hV hq hr hD hq0 hr0 fin
  go_enter Tryz.func164, Tryz.ntmps164
  go_wp2_with fail
  refine (zeros_1000 w).mono ?_
  rintro e w' ⟨rfl, rfl⟩
  go_wp2_with fail
  go_loopg [15, 16] 0 (fun kq v15 v16 w1 => v15 = .int .u64 q1 ∧ v16 = .int .u64 r1 ∧ w1 = w')
  case atStart => exact ⟨rfl, rfl, rfl⟩
  case round =>
    obtain ⟨rfl, rfl, rfl⟩ := hrel
    go_wp2_with fail
    go_loopg [16, 18] 0 (fun kq v16 v18 w1 => v18 = .int .u64 q0 ∧ v16 = .int .u64 r0 ∧ w1 = wr)
    case atStart => exact ⟨rfl, rfl, rfl⟩
    case round =>
      obtain ⟨rfl, rfl, rfl⟩ := hrel
      go_wp2_with fail
      go_ret2
      exact ⟨by rw [← FIN.out.1, ← FIN.out.2]; rfl, Drawn0.refl _⟩
/-- Div64 by 1000, of what lies below 1000 times 2^64. -/
def bits_Div64.f (a0 a1 a2 : Int) : Option (Int × Int) := if a2 = 1000 then (if 0 ≤ a0 then (if a0 < 1000 then (if 0 ≤ a1 then (if a1 < 18446744073709551616 then some ((a0 * 18446744073709551616 + a1) / 1000, (a0 * 18446744073709551616 + a1) % 1000) else none) else none) else none) else none) else none
theorem bits_Div64.calls (a0 a1 a2 : Int) (r1 r2 : Int) (w : World) (h : bits_Div64.f a0 a1 a2 = some (r1, r2)) :
    Calls Tryz.prog 164 #[.int .u64 a0, .int .u64 a1, .int .u64 a2] w fun e w' => e = .returned (.tuple #[.int .u64 r1, .int .u64 r2]) ∧ Drawn0 w w' := by
  unfold bits_Div64.f at h
  by_cases e2 : a2 = 1000
  · by_cases g0 : 0 ≤ a0
    · by_cases g1 : a0 < 1000
      · by_cases h0 : 0 ≤ a1
        · by_cases h1 : a1 < 18446744073709551616
          · rw [if_pos e2, if_pos g0, if_pos g1, if_pos h0, if_pos h1] at h
            simp only [Option.some.injEq, Prod.mk.injEq] at h
            obtain ⟨rfl, rfl⟩ := h
            subst e2
            by_cases hz : a0 = 0
            · subst hz
              have := div_low a1 w h0 h1
              rwa [Int.zero_mul, Int.zero_add]
            · exact div_high a0 a1 w (by omega) g1 h0 h1
          · rw [if_pos e2, if_pos g0, if_pos g1, if_pos h0, if_neg h1] at h; cases h
        · rw [if_pos e2, if_pos g0, if_pos g1, if_neg h0] at h; cases h
      · rw [if_pos e2, if_pos g0, if_neg g1] at h; cases h
    · rw [if_pos e2, if_neg g0] at h; cases h
  · rw [if_neg e2] at h; cases h
end Go.Proofs.YtcmiehddjgfjaaaGreat.A
