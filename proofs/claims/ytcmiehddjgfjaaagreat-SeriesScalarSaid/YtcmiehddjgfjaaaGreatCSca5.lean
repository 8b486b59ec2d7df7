/- A part of the proof of LawSeriesScalar: contracts and plain laws, put together by a program of this session. -/
import Derived.Test.YtcmiehddjgfjaaaGreatCSca4
import Derived.Lib.Strings
set_option linter.unusedVariables false
set_option linter.unusedSimpArgs false
set_option linter.unusedSectionVars false
set_option maxHeartbeats 8000000
set_option maxRecDepth 100000
namespace Go.Proofs.YtcmiehddjgfjaaaGreat.A
open Go.RowKit Go.Proofs.YtcmiehddjgfjaaaGreatW.PrintWords Go.Proofs.YtcmiehddjgfjaaaGreatW.PrintLast Go.Proofs.YtcmiehddjgfjaaaGreatW.PrintMore
attribute [local go_sem] max2_int min2_int max_two min_two max_three min_three max_four min_four   -- for this text's walks alone
def r8_Do.j0 : Nat → ByteArray → List (S25) → Bool → Int → Int → Option (Int × Int × Int)
 | 0, _, _, _, _, _ => none
 | k + 1, x0, x1, x7, x390000, x390001 => if (x1.length : Int) = 2 then (if 0 < (x1.length : Int) then (if 1 < (x1.length : Int) then ((r8_two.f k x0 ((rd_T25 x1 0).f0) ((rd_T25 x1 0).f1) ((rd_T25 x1 1).f0) ((rd_T25 x1 1).f1)).bind fun bt396 => (if bt396.2.2 = true then (some (bt396.1, bt396.2.1, 0)) else (some (0, 0, 2)))) else (none)) else (none)) else (if x7 = true then (some (x390000, x390001, 0)) else (some (0, 0, 2)))
def r8_Do.f (k : Nat) (a0 : ByteArray) (l1 : List (S25)) : Option (Int × Int × Int) := (r8_Check.f k l1).bind fun t388 => (if t388 = 0 then (if (l1.length : Int) = 1 then (if 0 < (l1.length : Int) then ((r8_one.f k a0 ((rd_T25 l1 0).f0) ((rd_T25 l1 0).f1)).bind fun bt391 => (r8_Do.j0 k a0 l1 bt391.2.2 bt391.1 bt391.2.1)) else (none)) else (r8_Do.j0 k a0 l1 false 0 0)) else (some (0, 0, 80)))
def r8_Do.T7 : Bool × List (List Nat × List Nat) := (true, [([], []), ([], []), ([1], [1]), ([2], [2]), ([], []), ([4], [4]), ([5], [5]), ([0, 3, 6], [0, 3, 6]), ([7], [7]), ([8], [8]), ([8], [8]), ([9, 7, 0, 1, 2, 3, 4, 5, 6, 7, 8, 9], [9]), ([10, 11, 0, 1, 2, 3, 4, 5, 6, 7, 8, 9, 10, 11], [10])])
def r8_Do.B7 : List Nat := [0, 0, 2, 6, 0, 16, 48, 127, 255, 511, 511, 1023, 4095]
theorem r8_Do.tab7 : rtab .any (opsOf Tryz.f17 7) = r8_Do.T7 := by kernel_rfl
theorem r8_Do.bits7 : waitsOk r8_Do.T7.2 r8_Do.B7 = true := by kernel_rfl
theorem r8_Do.calls (k : Nat) (a0 : ByteArray) (A1 : Option Addr) (c1 : Nat) (l1 : List (S25)) (r1 : Int) (r2 : Int) (r3 : Int) (w : World) (hr1 : Kd.C k25 w A1 l1.length l1) (hc1 : l1.length ≤ c1) (h : r8_Do.f k a0 l1 = some (r1, r2, r3)) :
  Calls Tryz.prog 17 #[.string a0, .slice A1 l1.length c1] w fun e w' => e = .returned (.tuple #[.agg #[.int .i64 r1, .int .i64 r2], .int .i64 r3]) ∧ Below w.heap.size w w' := by
 have hu25 := Tryz.underlying25
 have HR1 := Sd.mk hr1
 have HC1 := Sd.mk hc1
 clear hr1 hc1
 have HB := Sd.mk (Below.refl w.heap.size w)
 have H : ((r8_Check.f k l1).bind fun t388 => (if t388 = 0 then (if (l1.length : Int) = 1 then (if 0 < (l1.length : Int) then ((r8_one.f k a0 ((rd_T25 l1 0).f0) ((rd_T25 l1 0).f1)).bind fun bt391 => (r8_Do.j0 k a0 l1 bt391.2.2 bt391.1 bt391.2.1)) else (none)) else (r8_Do.j0 k a0 l1 false 0 0)) else (some (0, 0, 80)))) = some (r1, r2, r3) := h
 clear h
 obtain ⟨t388, A3, H⟩ := bnd H
 by_cases c4 : t388 = 0
 ·rw [if_pos c4] at H
  have c4b0 := beq_iff_eq.mpr c4
  have c4b1 := bne_eq_false_iff_eq.mpr c4
  clear c4
  have HC5 := Sd.mk H
  clear H
  go_enter Tryz.func17, Tryz.ntmps17
  go_upto_if 15 with (first | ((with_reducible refine gate_dst (N := 4) rfl ?_); refine bxe (N := 4) (cs := #[.int .i64 0, .int .i64 0]) (t := 25) ?_; intro gb387 hg w6 hbox hb; have BK387 := Sd.mk hbox; have GW387 := bge w hg; have GE387 := bge w hg; replace HB := bsq w hb; clear hb hbox hg) | ((with_reducible refine gate_callee (f := 59) rfl ?_); refine goesL_ (some 9) rfl rfl Tryz.func59 (by kernel_rfl) rfl #[.slice A1 l1.length c1] rfl ma ?_; (with_reducible refine (r8_Check.calls k _ _ l1 t388 _ ?side1 ?side2 A3.out).mono ?_); (case side1 => repeat (first | exact (Kd.C_below HR1.out HB.out) | (with_reducible refine Kd.C_alloc ?_ _) | (with_reducible refine Kd.C_drewN ?_ _) | (with_reducible refine Kd.C_drew ?_))); (case side2 => exact HC1.out); rintro e w7 ⟨rfl, hb⟩; refine ⟨_, rfl, ?_⟩; replace BK387 := bkb BK387 hb; replace HB := bsq w hb; (try clear hb)) | ((with_reducible refine gate_dst (N := 6) rfl ?_); refine bxe (N := 6) (cs := #[.int .i64 0, .int .i64 0]) (t := 25) ?_; intro gb389 hg w8 hbox hb; have BK389 := Sd.mk hbox; have GW389 := bge w hg; have GE389 := bge w hg; have NB387_389 := bnl BK387 hg; have NB389_387 := bng BK387 hg; replace BK387 := bkb BK387 hb; replace HB := bsq w hb; clear hb hbox hg; have hnb9 := NB389_387.out; have hnc9 := NB387_389.out; have hcz10_0 := bz0 BK389; have hcz10_1 := bz1 BK389; have hfz10_0 := blk_frozen BK389.out 0; have hfz10_1 := blk_frozen BK389.out 1))
  (try simp only [Act.put, List.setIfInBounds_toArray, List.set_cons_zero, List.set_cons_succ])
  go_cut [7] (fun v7 wc => ∃ (kq : Nat) (x7_4 : Bool) (x390000_4 : Int) (x390001_4 : Int), v7 = .bool x7_4 ∧ Sd (r8_Do.j0 kq a0 l1 x7_4 x390000_4 x390001_4 = some (r1, r2, r3)) ∧ Sd (kq ≤ k) ∧ Sd (wc.heap[gb387]? = some (.cells #[.int .i64 0, .int .i64 0] 25 (0, 0))) ∧ Sd (wc.heap[gb389]? = some (.cells #[.int .i64 x390000_4, .int .i64 x390001_4] 25 (0, 0))) ∧ Sd (Below w.heap.size w wc))
  case first =>
   have H := HC5.out
   clear HC5
   by_cases c11 : (l1.length : Int) = 1
   ·rw [if_pos c11] at H
    have c11b0 : ((l1.length : Int) == 1) = true := beq_iff_eq.mpr c11
    have c11b1 : ((l1.length : Int) != 1) = false := bne_eq_false_iff_eq.mpr c11
    clear c11
    (first | rw [c11b0] | (simp only [i64_w, i32_w]; rw [c11b0]) | skip)
    by_cases c12 : 0 < (l1.length : Int)
    ·rw [if_pos c12] at H
     have c12b0 : decide (0 < (l1.length : Int)) = true := decide_eq_true c12
     have c12b1 : decide (0 < l1.length) = true := decide_eq_true (by omega)
     clear c12
     obtain ⟨⟨t391, t392, t393⟩, A13, H⟩ := bnd H
     replace H : (r8_Do.j0 k a0 l1 t393 t391 t392) = some (r1, r2, r3) := H
     have H' := Sd.mk H
     clear H
     have p390 : 0 ≤ (0 : Int) := (by omega)
     have q390 : 0 < (l1.length : Int) := ode
     obtain ⟨ad390, e390, hx390_0, hx390_1⟩ := at_T25 HR1.out 0 p390 q390
     cases e390
     have qi390 : (0 < l1.length) = True := eq_true (by omega)
     (try rw [show ((0 : Int)).toNat = 0 from rfl] at hx390_0)
     (try rw [show 0 * 2 = 0 from rfl] at hx390_0)
     (try rw [Addr.add_zero'] at hx390_0)
     (try rw [show ((0 : Int)).toNat = 0 from rfl] at hx390_1)
     (try rw [show 0 * 2 = 0 from rfl] at hx390_1)
     (try rw [Addr.add_zero'] at hx390_1)
     have hn390_0 : ad390.block ≠ gb389 := Nat.ne_of_lt (Nat.lt_of_lt_of_le (by have := World.block_lt_of_cell? _ _ hx390_0; first | rwa [add_block] at this | exact this) GW389.out)
     have hn390_1 : ad390.block ≠ gb389 := Nat.ne_of_lt (Nat.lt_of_lt_of_le (by have := World.block_lt_of_cell? _ _ hx390_0; first | rwa [add_block] at this | exact this) GW389.out)
     replace hx390_0 := hxc HB hx390_0
     replace hx390_1 := hxc HB hx390_1
     replace hx390_0 := (cell_far (p := ⟨gb389, 0, none⟩) (by first | (rw [add_block]; exact hn390_0) | (show (Addr.add _ _).block ≠ _; rw [add_block]; exact hn390_0) | exact hn390_0) (.int .i64 0)).trans hx390_0
     replace hx390_1 := (cell_far (p := ⟨gb389, 0, none⟩) (by first | (rw [add_block]; exact hn390_0) | (show (Addr.add _ _).block ≠ _; rw [add_block]; exact hn390_0) | exact hn390_0) (.int .i64 0)).trans hx390_1
     replace hx390_0 := (cell_far (p := ⟨gb389, 1, none⟩) (by first | (rw [add_block]; exact hn390_1) | (show (Addr.add _ _).block ≠ _; rw [add_block]; exact hn390_1) | exact hn390_1) (.int .i64 0)).trans hx390_0
     replace hx390_1 := (cell_far (p := ⟨gb389, 1, none⟩) (by first | (rw [add_block]; exact hn390_1) | (show (Addr.add _ _).block ≠ _; rw [add_block]; exact hn390_1) | exact hn390_1) (.int .i64 0)).trans hx390_1
     clear hn390_0 hn390_1
     replace p390 := eq_true p390
     replace q390 := eq_true q390
     go_wp2_with (first | ((with_reducible refine gate_callee (f := 60) rfl ?_); refine goesL_ (some 21) rfl rfl Tryz.func60 (by kernel_rfl) rfl #[.string a0, .agg #[.int .i64 ((rd_T25 l1 0).f0), .int .i64 ((rd_T25 l1 0).f1)]] rfl ma ?_; (with_reducible refine (r8_one.calls k a0 ((rd_T25 l1 0).f0) ((rd_T25 l1 0).f1) t391 t392 t393 _ A13.out).mono ?_); rintro e w14 ⟨rfl, hb⟩; refine ⟨_, rfl, ?_⟩; have n0_ := Sd.mk (blk_below (g := gb387) (o := .cells #[.int .i64 0, .int .i64 0] 25 (0, 0)) (by (repeat refine dw ?_); refine blk_far ?_ NB387_389.out _; (repeat refine dw ?_); refine blk_far ?_ NB387_389.out _; (repeat refine dw ?_); exact BK387.out) hb); have n1_ := Sd.mk (blk_below (g := gb389) (o := .cells #[.int .i64 0, .int .i64 0] 25 (0, 0)) (by (repeat refine dw ?_); refine blk_put (cs := #[.int .i64 0, .int .i64 0]) ?_ 1 _ rfl; (repeat refine dw ?_); refine blk_put (cs := #[.int .i64 0, .int .i64 0]) ?_ 0 _ rfl; (repeat refine dw ?_); exact BK389.out) hb); have n2_ := bsq w hb; clear BK387; clear BK389; clear HB; have BK387 := n0_; have BK389 := n1_; have HB := n2_; clear n0_ n1_ n2_; (try clear hb); have hnb15 := NB389_387.out; have hnc15 := NB387_389.out; have hcz16_0 := bz0 BK389; have hcz16_1 := bz1 BK389; have hfz16_0 := blk_frozen BK389.out 0; have hfz16_1 := blk_frozen BK389.out 1))
     go_meet
     case rel => exact ⟨_, (t393), (t391), (t392), ae, H', ⟨by first | omega | exact Nat.le_refl _⟩, ⟨by (repeat refine dw ?_); refine blk_far ?_ NB387_389.out _; (repeat refine dw ?_); refine blk_far ?_ NB387_389.out _; (repeat refine dw ?_); exact BK387.out⟩, ⟨by (repeat refine dw ?_); refine blk_put (cs := #[.int .i64 t391, .int .i64 0]) ?_ 1 _ rfl; (repeat refine dw ?_); refine blk_put (cs := #[.int .i64 0, .int .i64 0]) ?_ 0 _ rfl; (repeat refine dw ?_); exact BK389.out⟩, ⟨bbl⟩⟩
    ·rw [if_neg c12] at H
     exact absurd H (by simp)
   ·rw [if_neg c11] at H
    have c11b0 : ((l1.length : Int) == 1) = false := beq_eq_false_iff_ne.mpr c11
    have c11b1 : ((l1.length : Int) != 1) = true := bne_iff_ne.mpr c11
    (first | rw [c11b0] | (simp only [i64_w, i32_w]; rw [c11b0]) | skip)
    have H' := Sd.mk H
    clear H
    go_wp2
    go_meet
    case rel => exact ⟨_, (false), (0), (0), ae, H', ⟨by first | omega | exact Nat.le_refl _⟩, ⟨by (repeat refine dw ?_); refine blk_far ?_ NB387_389.out _; (repeat refine dw ?_); refine blk_far ?_ NB387_389.out _; (repeat refine dw ?_); exact BK387.out⟩, ⟨by (repeat refine dw ?_); refine blk_put (cs := #[.int .i64 0, .int .i64 0]) ?_ 1 _ rfl; (repeat refine dw ?_); refine blk_put (cs := #[.int .i64 0, .int .i64 0]) ?_ 0 _ rfl; (repeat refine dw ?_); exact BK389.out⟩, ⟨bbl⟩⟩
  case rest =>
   clear HC5
   obtain ⟨kq, x7_4, x390000_4, x390001_4, rfl, HA, HJ4, BK387, BK389, HB⟩ := hcut
   cases kq with
   | zero => exact absurd HA.out (by simp [r8_Do.j0])
   | succ kj4 =>
    have H := HA.out
    clear HA
    simp only [r8_Do.j0] at H
    by_cases c17 : (l1.length : Int) = 2
    ·rw [if_pos c17] at H
     have c17b0 : ((l1.length : Int) == 2) = true := beq_iff_eq.mpr c17
     have c17b1 : ((l1.length : Int) != 2) = false := bne_eq_false_iff_eq.mpr c17
     clear c17
     by_cases c18 : 0 < (l1.length : Int)
     ·rw [if_pos c18] at H
      have c18b0 : decide (0 < (l1.length : Int)) = true := decide_eq_true c18
      have c18b1 : decide (0 < l1.length) = true := decide_eq_true (by omega)
      clear c18
      by_cases c19 : 1 < (l1.length : Int)
      ·rw [if_pos c19] at H
       have c19b0 : decide (1 < (l1.length : Int)) = true := decide_eq_true c19
       have c19b1 : decide (1 < l1.length) = true := decide_eq_true (by omega)
       clear c19
       obtain ⟨⟨t396, t397, t398⟩, A20, H⟩ := bnd H
       replace H : (if t398 = true then (some (t396, t397, 0)) else (some (0, 0, 2))) = some (r1, r2, r3) := H
       by_cases c21 : t398 = true
       ·subst c21
        replace H := iT H
        simp only [Option.some.injEq, Prod.mk.injEq] at H
        obtain ⟨rfl, rfl, rfl⟩ := H
        try go_wp2
        have n0_ := Sd.mk (blk_drew BK387.out)
        have n1_ := Sd.mk (blk_drew BK389.out)
        have n2_ := Sd.mk (bd1 HB.out)
        clear BK387 BK389 HB
        have BK387 := n0_
        have BK389 := n1_
        have HB := n2_
        clear n0_ n1_ n2_
        have p394 : 0 ≤ (0 : Int) := (by omega)
        have q394 : 0 < (l1.length : Int) := ode
        obtain ⟨ad394, e394, hx394_0, hx394_1⟩ := at_T25 HR1.out 0 p394 q394
        have hw394_1 := hx394_1
        (try rw [show ((0 : Int)).toNat = 0 from rfl] at hw394_1)
        (try rw [show 0 * 2 = 0 from rfl] at hw394_1)
        (try rw [Addr.add_zero'] at hw394_1)
        have hw394_0 := hx394_0
        (try rw [show ((0 : Int)).toNat = 0 from rfl] at hw394_0)
        (try rw [show 0 * 2 = 0 from rfl] at hw394_0)
        (try rw [Addr.add_zero'] at hw394_0)
        cases e394
        have qi394 : (0 < l1.length) = True := eq_true (by omega)
        (try rw [show ((0 : Int)).toNat = 0 from rfl] at hx394_0)
        (try rw [show 0 * 2 = 0 from rfl] at hx394_0)
        (try rw [Addr.add_zero'] at hx394_0)
        (try rw [show ((0 : Int)).toNat = 0 from rfl] at hx394_1)
        (try rw [show 0 * 2 = 0 from rfl] at hx394_1)
        (try rw [Addr.add_zero'] at hx394_1)
        replace hx394_0 := hxc HB hx394_0
        replace hx394_1 := hxc HB hx394_1
        replace p394 := eq_true p394
        replace q394 := eq_true q394
        have p395 : 0 ≤ (1 : Int) := (by omega)
        have q395 : 1 < (l1.length : Int) := ode
        obtain ⟨ad395, e395, hx395_0, hx395_1⟩ := at_T25 HR1.out 1 p395 q395
        have hw395_1 := hx395_1
        (try rw [show ((1 : Int)).toNat = 1 from rfl] at hw395_1)
        (try rw [show 1 * 2 = 2 from rfl] at hw395_1)
        (try simp only [Nat.reduceMul, Nat.reduceEqDiff, Go.Addr.add, ↓reduceIte] at hw395_1)
        have hw395_0 := hx395_0
        (try rw [show ((1 : Int)).toNat = 1 from rfl] at hw395_0)
        (try rw [show 1 * 2 = 2 from rfl] at hw395_0)
        (try simp only [Nat.reduceMul, Nat.reduceEqDiff, Go.Addr.add, ↓reduceIte] at hw395_0)
        obtain rfl : ad394 = ad395 := (by injection e395)
        (try simp only [show (1 : Int).toNat = 1 from rfl, Nat.reduceMul, Nat.reduceEqDiff, Go.Addr.add, ↓reduceIte] at hx395_0)
        (try simp only [show (1 : Int).toNat = 1 from rfl, Nat.reduceMul, Nat.reduceEqDiff, Go.Addr.add, ↓reduceIte] at hx395_1)
        have qi395 : (1 < l1.length) = True := eq_true (by omega)
        (try rw [show ((1 : Int)).toNat = 1 from rfl] at hx395_0)
        (try rw [show 1 * 2 = 2 from rfl] at hx395_0)
        (try rw [show ((1 : Int)).toNat = 1 from rfl] at hx395_1)
        (try rw [show 1 * 2 = 2 from rfl] at hx395_1)
        replace hx395_0 := hxc HB hx395_0
        replace hx395_1 := hxc HB hx395_1
        replace p395 := eq_true p395
        replace q395 := eq_true q395
        refine start_ (n := 13) (S := fun w' => w'.cell? ad394 = some (.int .i64 ((rd_T25 l1 0).f0)) ∧ w'.cell? ⟨ad394.block, ad394.off + 1, none⟩ = some (.int .i64 ((rd_T25 l1 0).f1)) ∧ w'.cell? ⟨ad394.block, ad394.off + 2, none⟩ = some (.int .i64 ((rd_T25 l1 1).f0)) ∧ w'.cell? ⟨ad394.block, ad394.off + 2 + 1, none⟩ = some (.int .i64 ((rd_T25 l1 1).f1))) (ds := []) #[false, false, false, false, false, false, false, false, false, false, false, false, false] (by kernel_rfl) rfl rfl ⟨((HB.out.cell (World.block_lt_of_cell? w _ hw394_0)).trans hw394_0), ((HB.out.cell (World.block_lt_of_cell? w _ hw394_1)).trans hw394_1), ((HB.out.cell (World.block_lt_of_cell? w _ hw395_0)).trans hw395_0), ((HB.out.cell (World.block_lt_of_cell? w _ hw395_1)).trans hw395_1)⟩ (fun hHeld => ?_); refine with_tabW r8_Do.tab7 r8_Do.bits7 (fun HT_ HW_ => ?_)
        generalize wc.drew = w22 at BK387 BK389 HB hx394_0 hx394_1 hx395_0 hx395_1 hHeld ⊢
        refine pure_ (i := 0) (N := some 28) (v := ?_) (a' := ?_) #[true, false, false, false, false, false, false, false, false, false, false, false, false] rfl rfl (any_of HT_.out (by kernel_rfl)) (fun _ _ _ h => h) (Or.inl ⟨by rfl, ?_⟩) ?_ ?_
        rotate_left
        ·intro w'
         go_simp
         with_reducible rfl
        rotate_left
        ·simp only [Act.put, List.setIfInBounds_toArray, List.set_cons_zero, List.set_cons_succ, i64_w, i32_w]
         rfl
        refine pure_ (i := 1) (N := some 29) (v := ?_) (a' := ?_) #[true, true, false, false, false, false, false, false, false, false, false, false, false] rfl rfl (any_of HT_.out (by kernel_rfl)) (fun _ _ _ h => h) (Or.inl ⟨by rfl, ?_⟩) ?_ ?_
        rotate_left
        ·intro w'
         go_simp
         with_reducible rfl
        rotate_left
        ·simp only [Act.put, List.setIfInBounds_toArray, List.set_cons_zero, List.set_cons_succ, i64_w, i32_w]
         rfl
        refine pure_ (i := 2) (N := some 30) (v := ?_) (a' := ?_) #[true, true, true, false, false, false, false, false, false, false, false, false, false] rfl rfl (any_of HT_.out (by kernel_rfl)) (fun _ _ _ h => h) (Or.inl ⟨by rfl, ?_⟩) ?_ ?_
        rotate_left
        ·intro w'
         go_simp
         with_reducible rfl
        rotate_left
        ·simp only [Act.put, List.setIfInBounds_toArray, List.set_cons_zero, List.set_cons_succ, i64_w, i32_w]
         rfl
        refine pure_ (i := 4) (N := some 32) (v := ?_) (a' := ?_) #[true, true, true, false, true, false, false, false, false, false, false, false, false] rfl rfl (any_of HT_.out (by kernel_rfl)) (fun _ _ _ h => h) (Or.inl ⟨by rfl, ?_⟩) ?_ ?_
        rotate_left
        ·intro w'
         go_simp
         with_reducible rfl
        rotate_left
        ·simp only [Act.put, List.setIfInBounds_toArray, List.set_cons_zero, List.set_cons_succ, i64_w, i32_w]
         rfl
        refine pure_ (i := 5) (N := some 33) (v := ?_) (a' := ?_) #[true, true, true, false, true, true, false, false, false, false, false, false, false] rfl rfl (any_of HT_.out (by kernel_rfl)) (fun _ _ _ h => h) (Or.inl ⟨by rfl, ?_⟩) ?_ ?_
        rotate_left
        ·intro w'
         go_simp
         with_reducible rfl
        rotate_left
        ·simp only [Act.put, List.setIfInBounds_toArray, List.set_cons_zero, List.set_cons_succ, i64_w, i32_w]
         rfl
        refine take_ (i := 3) (N := some 31) (v := ?_) (a' := ?_) #[true, true, true, true, true, true, false, false, false, false, false, false, false] rfl rfl (take_ofW HT_.out HW_.out (by kernel_rfl)) (fun _ _ _ h => h) (Or.inl ⟨by rfl, ?_⟩) hHeld ?_ ?_
        rotate_left
        ·rintro w' ⟨s0, s1, s2, s3⟩
         go_simp
         with_reducible rfl
        rotate_left
        ·simp only [Act.put, List.setIfInBounds_toArray, List.set_cons_zero, List.set_cons_succ, i64_w, i32_w]
         rfl
        refine take_ (i := 6) (N := some 34) (v := ?_) (a' := ?_) #[true, true, true, true, true, true, true, false, false, false, false, false, false] rfl rfl (take_ofW HT_.out HW_.out (by kernel_rfl)) (fun _ _ _ h => h) (Or.inl ⟨by rfl, ?_⟩) hHeld ?_ ?_
        rotate_left
        ·rintro w' ⟨s0, s1, s2, s3⟩
         go_simp
         with_reducible rfl
        rotate_left
        ·simp only [Act.put, List.setIfInBounds_toArray, List.set_cons_zero, List.set_cons_succ, i64_w, i32_w]
         rfl
        refine one_ (i := 7) (N := some 35) #[true, true, true, true, true, true, true, true, false, false, false, false, false] rfl rfl (one_of HT_.out (by kernel_rfl)) (by decide) (fun K hK => ?_)
        refine goes_ Tryz.func61 (by kernel_rfl) rfl #[.string a0, .agg #[.int .i64 ((rd_T25 l1 0).f0), .int .i64 ((rd_T25 l1 0).f1)], .agg #[.int .i64 ((rd_T25 l1 1).f0), .int .i64 ((rd_T25 l1 1).f1)]] (by rfl) rfl rfl ma ?_
        with_reducible refine (r8_two.calls kj4 a0 ((rd_T25 l1 0).f0) ((rd_T25 l1 0).f1) ((rd_T25 l1 1).f0) ((rd_T25 l1 1).f1) t396 t397 true _ A20.out).mono ?_
        rintro e w23 ⟨rfl, hb⟩
        refine ⟨_, rfl, ?_⟩
        have n0_ := bkb BK387 hb
        have n1_ := bkb BK389 hb
        have n2_ := bsq w hb
        clear BK387 BK389 HB
        have BK387 := n0_
        have BK389 := n1_
        have HB := n2_
        clear n0_ n1_ n2_
        (try clear hb)
        (try clear hb2)
        (try clear hk)
        (try clear hi)
        refine hK.out _ _ ⟨((HB.out.cell (World.block_lt_of_cell? w _ hw394_0)).trans hw394_0), ((HB.out.cell (World.block_lt_of_cell? w _ hw394_1)).trans hw394_1), ((HB.out.cell (World.block_lt_of_cell? w _ hw395_0)).trans hw395_0), ((HB.out.cell (World.block_lt_of_cell? w _ hw395_1)).trans hw395_1)⟩ (fun hHeld => ?_)
        clear hK K
        refine norm_ (a' := ?_) ?_ ?_
        rotate_left
        ·show Act.put _ (some 35) _ = _
         simp only [Act.put, List.setIfInBounds_toArray, List.set_cons_zero, List.set_cons_succ, i64_w, i32_w]
         rfl
        refine pure_ (i := 8) (N := some 27) (v := ?_) (a' := ?_) #[true, true, true, true, true, true, true, true, true, false, false, false, false] rfl rfl (any_of HT_.out (by kernel_rfl)) (fun _ _ _ h => h) (Or.inl ⟨by rfl, ?_⟩) ?_ ?_
        rotate_left
        ·intro w'
         go_simp
         with_reducible rfl
        rotate_left
        ·simp only [Act.put, List.setIfInBounds_toArray, List.set_cons_zero, List.set_cons_succ, i64_w, i32_w]
         rfl
        refine pure_ (i := 9) (N := some 36) (v := ?_) (a' := ?_) #[true, true, true, true, true, true, true, true, true, true, false, false, false] rfl rfl (any_of HT_.out (by kernel_rfl)) (fun _ _ _ h => h) (Or.inl ⟨by rfl, ?_⟩) ?_ ?_
        rotate_left
        ·intro w'
         go_simp
         with_reducible rfl
        rotate_left
        ·simp only [Act.put, List.setIfInBounds_toArray, List.set_cons_zero, List.set_cons_succ, i64_w, i32_w]
         rfl
        refine pure_ (i := 10) (N := some 37) (v := ?_) (a' := ?_) #[true, true, true, true, true, true, true, true, true, true, true, false, false] rfl rfl (any_of HT_.out (by kernel_rfl)) (fun _ _ _ h => h) (Or.inl ⟨by rfl, ?_⟩) ?_ ?_
        rotate_left
        ·intro w'
         go_simp
         with_reducible rfl
        rotate_left
        ·simp only [Act.put, List.setIfInBounds_toArray, List.set_cons_zero, List.set_cons_succ, i64_w, i32_w]
         rfl
        refine one_ (i := 11) (N := none) #[true, true, true, true, true, true, true, true, true, true, true, true, false] rfl rfl (one_of HT_.out (by kernel_rfl)) (by decide) (fun K hK => ?_)
        have hs24 : w23.cell? ⟨gb389, 0, none⟩ = some (.int .i64 x390000_4) := (blk_cell BK389.out 0).trans rfl
        have hfs24 := blk_frozen BK389.out 0
        have hns24_0 := NB387_389.out
        have hms24_0 := NB389_387.out
        have hs25 : w23.cell? ⟨gb389, 1, none⟩ = some (.int .i64 x390001_4) := (blk_cell BK389.out 1).trans rfl
        have hfs25 := blk_frozen BK389.out 1
        have hns25_0 := NB387_389.out
        have hms25_0 := NB389_387.out
        refine skip_ (w1 := ?_) (by rfl) rfl ?_ ?_
        rotate_left
        ·go_simp
         rfl
        refine hK.out _ _ ⟨((cell_far (p := ⟨gb389, _, none⟩) (by first | exact Nat.ne_of_lt (Nat.lt_of_lt_of_le (by have := World.block_lt_of_cell? _ _ hw394_0; first | rwa [add_block] at this | exact this) GW389.out) | (rw [add_block]; exact Nat.ne_of_lt (Nat.lt_of_lt_of_le (by have := World.block_lt_of_cell? _ _ hw394_0; first | rwa [add_block] at this | exact this) GW389.out)) | (show (Addr.add _ _).block ≠ _; rw [add_block]; exact Nat.ne_of_lt (Nat.lt_of_lt_of_le (by have := World.block_lt_of_cell? _ _ hw394_0; first | rwa [add_block] at this | exact this) GW389.out)) | (dsimp only; exact Nat.ne_of_lt (Nat.lt_of_lt_of_le (by have := World.block_lt_of_cell? _ _ hw394_0; first | rwa [add_block] at this | exact this) GW389.out))) _).trans (((cell_far (p := ⟨gb389, _, none⟩) (by first | exact Nat.ne_of_lt (Nat.lt_of_lt_of_le (by have := World.block_lt_of_cell? _ _ hw394_0; first | rwa [add_block] at this | exact this) GW389.out) | (rw [add_block]; exact Nat.ne_of_lt (Nat.lt_of_lt_of_le (by have := World.block_lt_of_cell? _ _ hw394_0; first | rwa [add_block] at this | exact this) GW389.out)) | (show (Addr.add _ _).block ≠ _; rw [add_block]; exact Nat.ne_of_lt (Nat.lt_of_lt_of_le (by have := World.block_lt_of_cell? _ _ hw394_0; first | rwa [add_block] at this | exact this) GW389.out)) | (dsimp only; exact Nat.ne_of_lt (Nat.lt_of_lt_of_le (by have := World.block_lt_of_cell? _ _ hw394_0; first | rwa [add_block] at this | exact this) GW389.out))) _).trans (hHeld.1)))), ((cell_far (p := ⟨gb389, _, none⟩) (by first | exact Nat.ne_of_lt (Nat.lt_of_lt_of_le (by have := World.block_lt_of_cell? _ _ hw394_1; first | rwa [add_block] at this | exact this) GW389.out) | (rw [add_block]; exact Nat.ne_of_lt (Nat.lt_of_lt_of_le (by have := World.block_lt_of_cell? _ _ hw394_1; first | rwa [add_block] at this | exact this) GW389.out)) | (show (Addr.add _ _).block ≠ _; rw [add_block]; exact Nat.ne_of_lt (Nat.lt_of_lt_of_le (by have := World.block_lt_of_cell? _ _ hw394_1; first | rwa [add_block] at this | exact this) GW389.out)) | (dsimp only; exact Nat.ne_of_lt (Nat.lt_of_lt_of_le (by have := World.block_lt_of_cell? _ _ hw394_1; first | rwa [add_block] at this | exact this) GW389.out))) _).trans (((cell_far (p := ⟨gb389, _, none⟩) (by first | exact Nat.ne_of_lt (Nat.lt_of_lt_of_le (by have := World.block_lt_of_cell? _ _ hw394_1; first | rwa [add_block] at this | exact this) GW389.out) | (rw [add_block]; exact Nat.ne_of_lt (Nat.lt_of_lt_of_le (by have := World.block_lt_of_cell? _ _ hw394_1; first | rwa [add_block] at this | exact this) GW389.out)) | (show (Addr.add _ _).block ≠ _; rw [add_block]; exact Nat.ne_of_lt (Nat.lt_of_lt_of_le (by have := World.block_lt_of_cell? _ _ hw394_1; first | rwa [add_block] at this | exact this) GW389.out)) | (dsimp only; exact Nat.ne_of_lt (Nat.lt_of_lt_of_le (by have := World.block_lt_of_cell? _ _ hw394_1; first | rwa [add_block] at this | exact this) GW389.out))) _).trans (hHeld.2.1)))), ((cell_far (p := ⟨gb389, _, none⟩) (by first | exact Nat.ne_of_lt (Nat.lt_of_lt_of_le (by have := World.block_lt_of_cell? _ _ hw395_0; first | rwa [add_block] at this | exact this) GW389.out) | (rw [add_block]; exact Nat.ne_of_lt (Nat.lt_of_lt_of_le (by have := World.block_lt_of_cell? _ _ hw395_0; first | rwa [add_block] at this | exact this) GW389.out)) | (show (Addr.add _ _).block ≠ _; rw [add_block]; exact Nat.ne_of_lt (Nat.lt_of_lt_of_le (by have := World.block_lt_of_cell? _ _ hw395_0; first | rwa [add_block] at this | exact this) GW389.out)) | (dsimp only; exact Nat.ne_of_lt (Nat.lt_of_lt_of_le (by have := World.block_lt_of_cell? _ _ hw395_0; first | rwa [add_block] at this | exact this) GW389.out))) _).trans (((cell_far (p := ⟨gb389, _, none⟩) (by first | exact Nat.ne_of_lt (Nat.lt_of_lt_of_le (by have := World.block_lt_of_cell? _ _ hw395_0; first | rwa [add_block] at this | exact this) GW389.out) | (rw [add_block]; exact Nat.ne_of_lt (Nat.lt_of_lt_of_le (by have := World.block_lt_of_cell? _ _ hw395_0; first | rwa [add_block] at this | exact this) GW389.out)) | (show (Addr.add _ _).block ≠ _; rw [add_block]; exact Nat.ne_of_lt (Nat.lt_of_lt_of_le (by have := World.block_lt_of_cell? _ _ hw395_0; first | rwa [add_block] at this | exact this) GW389.out)) | (dsimp only; exact Nat.ne_of_lt (Nat.lt_of_lt_of_le (by have := World.block_lt_of_cell? _ _ hw395_0; first | rwa [add_block] at this | exact this) GW389.out))) _).trans (hHeld.2.2.1)))), ((cell_far (p := ⟨gb389, _, none⟩) (by first | exact Nat.ne_of_lt (Nat.lt_of_lt_of_le (by have := World.block_lt_of_cell? _ _ hw395_1; first | rwa [add_block] at this | exact this) GW389.out) | (rw [add_block]; exact Nat.ne_of_lt (Nat.lt_of_lt_of_le (by have := World.block_lt_of_cell? _ _ hw395_1; first | rwa [add_block] at this | exact this) GW389.out)) | (show (Addr.add _ _).block ≠ _; rw [add_block]; exact Nat.ne_of_lt (Nat.lt_of_lt_of_le (by have := World.block_lt_of_cell? _ _ hw395_1; first | rwa [add_block] at this | exact this) GW389.out)) | (dsimp only; exact Nat.ne_of_lt (Nat.lt_of_lt_of_le (by have := World.block_lt_of_cell? _ _ hw395_1; first | rwa [add_block] at this | exact this) GW389.out))) _).trans (((cell_far (p := ⟨gb389, _, none⟩) (by first | exact Nat.ne_of_lt (Nat.lt_of_lt_of_le (by have := World.block_lt_of_cell? _ _ hw395_1; first | rwa [add_block] at this | exact this) GW389.out) | (rw [add_block]; exact Nat.ne_of_lt (Nat.lt_of_lt_of_le (by have := World.block_lt_of_cell? _ _ hw395_1; first | rwa [add_block] at this | exact this) GW389.out)) | (show (Addr.add _ _).block ≠ _; rw [add_block]; exact Nat.ne_of_lt (Nat.lt_of_lt_of_le (by have := World.block_lt_of_cell? _ _ hw395_1; first | rwa [add_block] at this | exact this) GW389.out)) | (dsimp only; exact Nat.ne_of_lt (Nat.lt_of_lt_of_le (by have := World.block_lt_of_cell? _ _ hw395_1; first | rwa [add_block] at this | exact this) GW389.out))) _).trans (hHeld.2.2.2))))⟩ (fun hHeld => ?_)
        clear hK K
        refine pure_ (i := 12) (N := some 7) (v := ?_) (a' := ?_) #[true, true, true, true, true, true, true, true, true, true, true, true, true] rfl rfl (any_of HT_.out (by kernel_rfl)) (fun _ _ _ h => h) (Or.inl ⟨by rfl, ?_⟩) ?_ ?_
        rotate_left
        ·intro w'
         go_simp
         with_reducible rfl
        rotate_left
        ·simp only [Act.put, List.setIfInBounds_toArray, List.set_cons_zero, List.set_cons_succ, i64_w, i32_w]
         rfl
        refine done_ (done_of HT_.out (by kernel_rfl)) ?_
        have hnb26 := NB389_387.out
        have hnc26 := NB387_389.out
        obtain ⟨hcz27_0, hcz27_1, hfz27_0, hfz27_1⟩ := bz BK389
        obtain ⟨hcz28_0, hcz28_1, hfz28_0, hfz28_1⟩ := bz BK387
        try go_wp2
        refine bodyPost_ret (results_ct rfl _ _ gb387 25 #[.int .i64 t396, .int .i64 t397] (0, 0) _ rfl (by (repeat refine dw ?_); refine blk_put (cs := #[.int .i64 t396, .int .i64 0]) ?_ 1 _ rfl; (repeat refine dw ?_); refine blk_put (cs := #[.int .i64 0, .int .i64 0]) ?_ 0 _ rfl; (repeat refine dw ?_); refine blk_far ?_ NB387_389.out _; (repeat refine dw ?_); refine blk_far ?_ NB387_389.out _; (repeat refine dw ?_); exact BK387.out) Tryz.underlying25 rfl (by kernel_rfl)) rfl ?_
        exact ⟨fe, bbl⟩
       ·replace c21 := Bool.eq_false_iff.mpr c21
        subst c21
        replace H := iF H
        simp only [Option.some.injEq, Prod.mk.injEq] at H
        obtain ⟨rfl, rfl, rfl⟩ := H
        try go_wp2
        have n0_ := Sd.mk (blk_drew BK387.out)
        have n1_ := Sd.mk (blk_drew BK389.out)
        have n2_ := Sd.mk (bd1 HB.out)
        clear BK387 BK389 HB
        have BK387 := n0_
        have BK389 := n1_
        have HB := n2_
        clear n0_ n1_ n2_
        have p394 : 0 ≤ (0 : Int) := (by omega)
        have q394 : 0 < (l1.length : Int) := ode
        obtain ⟨ad394, e394, hx394_0, hx394_1⟩ := at_T25 HR1.out 0 p394 q394
        have hw394_1 := hx394_1
        (try rw [show ((0 : Int)).toNat = 0 from rfl] at hw394_1)
        (try rw [show 0 * 2 = 0 from rfl] at hw394_1)
        (try rw [Addr.add_zero'] at hw394_1)
        have hw394_0 := hx394_0
        (try rw [show ((0 : Int)).toNat = 0 from rfl] at hw394_0)
        (try rw [show 0 * 2 = 0 from rfl] at hw394_0)
        (try rw [Addr.add_zero'] at hw394_0)
        cases e394
        have qi394 : (0 < l1.length) = True := eq_true (by omega)
        (try rw [show ((0 : Int)).toNat = 0 from rfl] at hx394_0)
        (try rw [show 0 * 2 = 0 from rfl] at hx394_0)
        (try rw [Addr.add_zero'] at hx394_0)
        (try rw [show ((0 : Int)).toNat = 0 from rfl] at hx394_1)
        (try rw [show 0 * 2 = 0 from rfl] at hx394_1)
        (try rw [Addr.add_zero'] at hx394_1)
        replace hx394_0 := hxc HB hx394_0
        replace hx394_1 := hxc HB hx394_1
        replace p394 := eq_true p394
        replace q394 := eq_true q394
        have p395 : 0 ≤ (1 : Int) := (by omega)
        have q395 : 1 < (l1.length : Int) := ode
        obtain ⟨ad395, e395, hx395_0, hx395_1⟩ := at_T25 HR1.out 1 p395 q395
        have hw395_1 := hx395_1
        (try rw [show ((1 : Int)).toNat = 1 from rfl] at hw395_1)
        (try rw [show 1 * 2 = 2 from rfl] at hw395_1)
        (try simp only [Nat.reduceMul, Nat.reduceEqDiff, Go.Addr.add, ↓reduceIte] at hw395_1)
        have hw395_0 := hx395_0
        (try rw [show ((1 : Int)).toNat = 1 from rfl] at hw395_0)
        (try rw [show 1 * 2 = 2 from rfl] at hw395_0)
        (try simp only [Nat.reduceMul, Nat.reduceEqDiff, Go.Addr.add, ↓reduceIte] at hw395_0)
        obtain rfl : ad394 = ad395 := (by injection e395)
        (try simp only [show (1 : Int).toNat = 1 from rfl, Nat.reduceMul, Nat.reduceEqDiff, Go.Addr.add, ↓reduceIte] at hx395_0)
        (try simp only [show (1 : Int).toNat = 1 from rfl, Nat.reduceMul, Nat.reduceEqDiff, Go.Addr.add, ↓reduceIte] at hx395_1)
        have qi395 : (1 < l1.length) = True := eq_true (by omega)
        (try rw [show ((1 : Int)).toNat = 1 from rfl] at hx395_0)
        (try rw [show 1 * 2 = 2 from rfl] at hx395_0)
        (try rw [show ((1 : Int)).toNat = 1 from rfl] at hx395_1)
        (try rw [show 1 * 2 = 2 from rfl] at hx395_1)
        replace hx395_0 := hxc HB hx395_0
        replace hx395_1 := hxc HB hx395_1
        replace p395 := eq_true p395
        replace q395 := eq_true q395
        refine start_ (n := 13) (S := fun w' => w'.cell? ad394 = some (.int .i64 ((rd_T25 l1 0).f0)) ∧ w'.cell? ⟨ad394.block, ad394.off + 1, none⟩ = some (.int .i64 ((rd_T25 l1 0).f1)) ∧ w'.cell? ⟨ad394.block, ad394.off + 2, none⟩ = some (.int .i64 ((rd_T25 l1 1).f0)) ∧ w'.cell? ⟨ad394.block, ad394.off + 2 + 1, none⟩ = some (.int .i64 ((rd_T25 l1 1).f1))) (ds := []) #[false, false, false, false, false, false, false, false, false, false, false, false, false] (by kernel_rfl) rfl rfl ⟨((HB.out.cell (World.block_lt_of_cell? w _ hw394_0)).trans hw394_0), ((HB.out.cell (World.block_lt_of_cell? w _ hw394_1)).trans hw394_1), ((HB.out.cell (World.block_lt_of_cell? w _ hw395_0)).trans hw395_0), ((HB.out.cell (World.block_lt_of_cell? w _ hw395_1)).trans hw395_1)⟩ (fun hHeld => ?_); refine with_tabW r8_Do.tab7 r8_Do.bits7 (fun HT_ HW_ => ?_)
        generalize wc.drew = w29 at BK387 BK389 HB hx394_0 hx394_1 hx395_0 hx395_1 hHeld ⊢
        refine pure_ (i := 0) (N := some 28) (v := ?_) (a' := ?_) #[true, false, false, false, false, false, false, false, false, false, false, false, false] rfl rfl (any_of HT_.out (by kernel_rfl)) (fun _ _ _ h => h) (Or.inl ⟨by rfl, ?_⟩) ?_ ?_
        rotate_left
        ·intro w'
         go_simp
         with_reducible rfl
        rotate_left
        ·simp only [Act.put, List.setIfInBounds_toArray, List.set_cons_zero, List.set_cons_succ, i64_w, i32_w]
         rfl
        refine pure_ (i := 1) (N := some 29) (v := ?_) (a' := ?_) #[true, true, false, false, false, false, false, false, false, false, false, false, false] rfl rfl (any_of HT_.out (by kernel_rfl)) (fun _ _ _ h => h) (Or.inl ⟨by rfl, ?_⟩) ?_ ?_
        rotate_left
        ·intro w'
         go_simp
         with_reducible rfl
        rotate_left
        ·simp only [Act.put, List.setIfInBounds_toArray, List.set_cons_zero, List.set_cons_succ, i64_w, i32_w]
         rfl
        refine pure_ (i := 2) (N := some 30) (v := ?_) (a' := ?_) #[true, true, true, false, false, false, false, false, false, false, false, false, false] rfl rfl (any_of HT_.out (by kernel_rfl)) (fun _ _ _ h => h) (Or.inl ⟨by rfl, ?_⟩) ?_ ?_
        rotate_left
        ·intro w'
         go_simp
         with_reducible rfl
        rotate_left
        ·simp only [Act.put, List.setIfInBounds_toArray, List.set_cons_zero, List.set_cons_succ, i64_w, i32_w]
         rfl
        refine pure_ (i := 4) (N := some 32) (v := ?_) (a' := ?_) #[true, true, true, false, true, false, false, false, false, false, false, false, false] rfl rfl (any_of HT_.out (by kernel_rfl)) (fun _ _ _ h => h) (Or.inl ⟨by rfl, ?_⟩) ?_ ?_
        rotate_left
        ·intro w'
         go_simp
         with_reducible rfl
        rotate_left
        ·simp only [Act.put, List.setIfInBounds_toArray, List.set_cons_zero, List.set_cons_succ, i64_w, i32_w]
         rfl
        refine pure_ (i := 5) (N := some 33) (v := ?_) (a' := ?_) #[true, true, true, false, true, true, false, false, false, false, false, false, false] rfl rfl (any_of HT_.out (by kernel_rfl)) (fun _ _ _ h => h) (Or.inl ⟨by rfl, ?_⟩) ?_ ?_
        rotate_left
        ·intro w'
         go_simp
         with_reducible rfl
        rotate_left
        ·simp only [Act.put, List.setIfInBounds_toArray, List.set_cons_zero, List.set_cons_succ, i64_w, i32_w]
         rfl
        refine take_ (i := 3) (N := some 31) (v := ?_) (a' := ?_) #[true, true, true, true, true, true, false, false, false, false, false, false, false] rfl rfl (take_ofW HT_.out HW_.out (by kernel_rfl)) (fun _ _ _ h => h) (Or.inl ⟨by rfl, ?_⟩) hHeld ?_ ?_
        rotate_left
        ·rintro w' ⟨s0, s1, s2, s3⟩
         go_simp
         with_reducible rfl
        rotate_left
        ·simp only [Act.put, List.setIfInBounds_toArray, List.set_cons_zero, List.set_cons_succ, i64_w, i32_w]
         rfl
        refine take_ (i := 6) (N := some 34) (v := ?_) (a' := ?_) #[true, true, true, true, true, true, true, false, false, false, false, false, false] rfl rfl (take_ofW HT_.out HW_.out (by kernel_rfl)) (fun _ _ _ h => h) (Or.inl ⟨by rfl, ?_⟩) hHeld ?_ ?_
        rotate_left
        ·rintro w' ⟨s0, s1, s2, s3⟩
         go_simp
         with_reducible rfl
        rotate_left
        ·simp only [Act.put, List.setIfInBounds_toArray, List.set_cons_zero, List.set_cons_succ, i64_w, i32_w]
         rfl
        refine one_ (i := 7) (N := some 35) #[true, true, true, true, true, true, true, true, false, false, false, false, false] rfl rfl (one_of HT_.out (by kernel_rfl)) (by decide) (fun K hK => ?_)
        refine goes_ Tryz.func61 (by kernel_rfl) rfl #[.string a0, .agg #[.int .i64 ((rd_T25 l1 0).f0), .int .i64 ((rd_T25 l1 0).f1)], .agg #[.int .i64 ((rd_T25 l1 1).f0), .int .i64 ((rd_T25 l1 1).f1)]] (by rfl) rfl rfl ma ?_
        with_reducible refine (r8_two.calls kj4 a0 ((rd_T25 l1 0).f0) ((rd_T25 l1 0).f1) ((rd_T25 l1 1).f0) ((rd_T25 l1 1).f1) t396 t397 false _ A20.out).mono ?_
        rintro e w30 ⟨rfl, hb⟩
        refine ⟨_, rfl, ?_⟩
        have n0_ := bkb BK387 hb
        have n1_ := bkb BK389 hb
        have n2_ := bsq w hb
        clear BK387 BK389 HB
        have BK387 := n0_
        have BK389 := n1_
        have HB := n2_
        clear n0_ n1_ n2_
        (try clear hb)
        (try clear hb2)
        (try clear hk)
        (try clear hi)
        refine hK.out _ _ ⟨((HB.out.cell (World.block_lt_of_cell? w _ hw394_0)).trans hw394_0), ((HB.out.cell (World.block_lt_of_cell? w _ hw394_1)).trans hw394_1), ((HB.out.cell (World.block_lt_of_cell? w _ hw395_0)).trans hw395_0), ((HB.out.cell (World.block_lt_of_cell? w _ hw395_1)).trans hw395_1)⟩ (fun hHeld => ?_)
        clear hK K
        refine norm_ (a' := ?_) ?_ ?_
        rotate_left
        ·show Act.put _ (some 35) _ = _
         simp only [Act.put, List.setIfInBounds_toArray, List.set_cons_zero, List.set_cons_succ, i64_w, i32_w]
         rfl
        refine pure_ (i := 8) (N := some 27) (v := ?_) (a' := ?_) #[true, true, true, true, true, true, true, true, true, false, false, false, false] rfl rfl (any_of HT_.out (by kernel_rfl)) (fun _ _ _ h => h) (Or.inl ⟨by rfl, ?_⟩) ?_ ?_
        rotate_left
        ·intro w'
         go_simp
         with_reducible rfl
        rotate_left
        ·simp only [Act.put, List.setIfInBounds_toArray, List.set_cons_zero, List.set_cons_succ, i64_w, i32_w]
         rfl
        refine pure_ (i := 9) (N := some 36) (v := ?_) (a' := ?_) #[true, true, true, true, true, true, true, true, true, true, false, false, false] rfl rfl (any_of HT_.out (by kernel_rfl)) (fun _ _ _ h => h) (Or.inl ⟨by rfl, ?_⟩) ?_ ?_
        rotate_left
        ·intro w'
         go_simp
         with_reducible rfl
        rotate_left
        ·simp only [Act.put, List.setIfInBounds_toArray, List.set_cons_zero, List.set_cons_succ, i64_w, i32_w]
         rfl
        refine pure_ (i := 10) (N := some 37) (v := ?_) (a' := ?_) #[true, true, true, true, true, true, true, true, true, true, true, false, false] rfl rfl (any_of HT_.out (by kernel_rfl)) (fun _ _ _ h => h) (Or.inl ⟨by rfl, ?_⟩) ?_ ?_
        rotate_left
        ·intro w'
         go_simp
         with_reducible rfl
        rotate_left
        ·simp only [Act.put, List.setIfInBounds_toArray, List.set_cons_zero, List.set_cons_succ, i64_w, i32_w]
         rfl
        refine one_ (i := 11) (N := none) #[true, true, true, true, true, true, true, true, true, true, true, true, false] rfl rfl (one_of HT_.out (by kernel_rfl)) (by decide) (fun K hK => ?_)
        have hs31 : w30.cell? ⟨gb389, 0, none⟩ = some (.int .i64 x390000_4) := (blk_cell BK389.out 0).trans rfl
        have hfs31 := blk_frozen BK389.out 0
        have hns31_0 := NB387_389.out
        have hms31_0 := NB389_387.out
        have hs32 : w30.cell? ⟨gb389, 1, none⟩ = some (.int .i64 x390001_4) := (blk_cell BK389.out 1).trans rfl
        have hfs32 := blk_frozen BK389.out 1
        have hns32_0 := NB387_389.out
        have hms32_0 := NB389_387.out
        refine skip_ (w1 := ?_) (by rfl) rfl ?_ ?_
        rotate_left
        ·go_simp
         rfl
        refine hK.out _ _ ⟨((cell_far (p := ⟨gb389, _, none⟩) (by first | exact Nat.ne_of_lt (Nat.lt_of_lt_of_le (by have := World.block_lt_of_cell? _ _ hw394_0; first | rwa [add_block] at this | exact this) GW389.out) | (rw [add_block]; exact Nat.ne_of_lt (Nat.lt_of_lt_of_le (by have := World.block_lt_of_cell? _ _ hw394_0; first | rwa [add_block] at this | exact this) GW389.out)) | (show (Addr.add _ _).block ≠ _; rw [add_block]; exact Nat.ne_of_lt (Nat.lt_of_lt_of_le (by have := World.block_lt_of_cell? _ _ hw394_0; first | rwa [add_block] at this | exact this) GW389.out)) | (dsimp only; exact Nat.ne_of_lt (Nat.lt_of_lt_of_le (by have := World.block_lt_of_cell? _ _ hw394_0; first | rwa [add_block] at this | exact this) GW389.out))) _).trans (((cell_far (p := ⟨gb389, _, none⟩) (by first | exact Nat.ne_of_lt (Nat.lt_of_lt_of_le (by have := World.block_lt_of_cell? _ _ hw394_0; first | rwa [add_block] at this | exact this) GW389.out) | (rw [add_block]; exact Nat.ne_of_lt (Nat.lt_of_lt_of_le (by have := World.block_lt_of_cell? _ _ hw394_0; first | rwa [add_block] at this | exact this) GW389.out)) | (show (Addr.add _ _).block ≠ _; rw [add_block]; exact Nat.ne_of_lt (Nat.lt_of_lt_of_le (by have := World.block_lt_of_cell? _ _ hw394_0; first | rwa [add_block] at this | exact this) GW389.out)) | (dsimp only; exact Nat.ne_of_lt (Nat.lt_of_lt_of_le (by have := World.block_lt_of_cell? _ _ hw394_0; first | rwa [add_block] at this | exact this) GW389.out))) _).trans (hHeld.1)))), ((cell_far (p := ⟨gb389, _, none⟩) (by first | exact Nat.ne_of_lt (Nat.lt_of_lt_of_le (by have := World.block_lt_of_cell? _ _ hw394_1; first | rwa [add_block] at this | exact this) GW389.out) | (rw [add_block]; exact Nat.ne_of_lt (Nat.lt_of_lt_of_le (by have := World.block_lt_of_cell? _ _ hw394_1; first | rwa [add_block] at this | exact this) GW389.out)) | (show (Addr.add _ _).block ≠ _; rw [add_block]; exact Nat.ne_of_lt (Nat.lt_of_lt_of_le (by have := World.block_lt_of_cell? _ _ hw394_1; first | rwa [add_block] at this | exact this) GW389.out)) | (dsimp only; exact Nat.ne_of_lt (Nat.lt_of_lt_of_le (by have := World.block_lt_of_cell? _ _ hw394_1; first | rwa [add_block] at this | exact this) GW389.out))) _).trans (((cell_far (p := ⟨gb389, _, none⟩) (by first | exact Nat.ne_of_lt (Nat.lt_of_lt_of_le (by have := World.block_lt_of_cell? _ _ hw394_1; first | rwa [add_block] at this | exact this) GW389.out) | (rw [add_block]; exact Nat.ne_of_lt (Nat.lt_of_lt_of_le (by have := World.block_lt_of_cell? _ _ hw394_1; first | rwa [add_block] at this | exact this) GW389.out)) | (show (Addr.add _ _).block ≠ _; rw [add_block]; exact Nat.ne_of_lt (Nat.lt_of_lt_of_le (by have := World.block_lt_of_cell? _ _ hw394_1; first | rwa [add_block] at this | exact this) GW389.out)) | (dsimp only; exact Nat.ne_of_lt (Nat.lt_of_lt_of_le (by have := World.block_lt_of_cell? _ _ hw394_1; first | rwa [add_block] at this | exact this) GW389.out))) _).trans (hHeld.2.1)))), ((cell_far (p := ⟨gb389, _, none⟩) (by first | exact Nat.ne_of_lt (Nat.lt_of_lt_of_le (by have := World.block_lt_of_cell? _ _ hw395_0; first | rwa [add_block] at this | exact this) GW389.out) | (rw [add_block]; exact Nat.ne_of_lt (Nat.lt_of_lt_of_le (by have := World.block_lt_of_cell? _ _ hw395_0; first | rwa [add_block] at this | exact this) GW389.out)) | (show (Addr.add _ _).block ≠ _; rw [add_block]; exact Nat.ne_of_lt (Nat.lt_of_lt_of_le (by have := World.block_lt_of_cell? _ _ hw395_0; first | rwa [add_block] at this | exact this) GW389.out)) | (dsimp only; exact Nat.ne_of_lt (Nat.lt_of_lt_of_le (by have := World.block_lt_of_cell? _ _ hw395_0; first | rwa [add_block] at this | exact this) GW389.out))) _).trans (((cell_far (p := ⟨gb389, _, none⟩) (by first | exact Nat.ne_of_lt (Nat.lt_of_lt_of_le (by have := World.block_lt_of_cell? _ _ hw395_0; first | rwa [add_block] at this | exact this) GW389.out) | (rw [add_block]; exact Nat.ne_of_lt (Nat.lt_of_lt_of_le (by have := World.block_lt_of_cell? _ _ hw395_0; first | rwa [add_block] at this | exact this) GW389.out)) | (show (Addr.add _ _).block ≠ _; rw [add_block]; exact Nat.ne_of_lt (Nat.lt_of_lt_of_le (by have := World.block_lt_of_cell? _ _ hw395_0; first | rwa [add_block] at this | exact this) GW389.out)) | (dsimp only; exact Nat.ne_of_lt (Nat.lt_of_lt_of_le (by have := World.block_lt_of_cell? _ _ hw395_0; first | rwa [add_block] at this | exact this) GW389.out))) _).trans (hHeld.2.2.1)))), ((cell_far (p := ⟨gb389, _, none⟩) (by first | exact Nat.ne_of_lt (Nat.lt_of_lt_of_le (by have := World.block_lt_of_cell? _ _ hw395_1; first | rwa [add_block] at this | exact this) GW389.out) | (rw [add_block]; exact Nat.ne_of_lt (Nat.lt_of_lt_of_le (by have := World.block_lt_of_cell? _ _ hw395_1; first | rwa [add_block] at this | exact this) GW389.out)) | (show (Addr.add _ _).block ≠ _; rw [add_block]; exact Nat.ne_of_lt (Nat.lt_of_lt_of_le (by have := World.block_lt_of_cell? _ _ hw395_1; first | rwa [add_block] at this | exact this) GW389.out)) | (dsimp only; exact Nat.ne_of_lt (Nat.lt_of_lt_of_le (by have := World.block_lt_of_cell? _ _ hw395_1; first | rwa [add_block] at this | exact this) GW389.out))) _).trans (((cell_far (p := ⟨gb389, _, none⟩) (by first | exact Nat.ne_of_lt (Nat.lt_of_lt_of_le (by have := World.block_lt_of_cell? _ _ hw395_1; first | rwa [add_block] at this | exact this) GW389.out) | (rw [add_block]; exact Nat.ne_of_lt (Nat.lt_of_lt_of_le (by have := World.block_lt_of_cell? _ _ hw395_1; first | rwa [add_block] at this | exact this) GW389.out)) | (show (Addr.add _ _).block ≠ _; rw [add_block]; exact Nat.ne_of_lt (Nat.lt_of_lt_of_le (by have := World.block_lt_of_cell? _ _ hw395_1; first | rwa [add_block] at this | exact this) GW389.out)) | (dsimp only; exact Nat.ne_of_lt (Nat.lt_of_lt_of_le (by have := World.block_lt_of_cell? _ _ hw395_1; first | rwa [add_block] at this | exact this) GW389.out))) _).trans (hHeld.2.2.2))))⟩ (fun hHeld => ?_)
        clear hK K
        refine pure_ (i := 12) (N := some 7) (v := ?_) (a' := ?_) #[true, true, true, true, true, true, true, true, true, true, true, true, true] rfl rfl (any_of HT_.out (by kernel_rfl)) (fun _ _ _ h => h) (Or.inl ⟨by rfl, ?_⟩) ?_ ?_
        rotate_left
        ·intro w'
         go_simp
         with_reducible rfl
        rotate_left
        ·simp only [Act.put, List.setIfInBounds_toArray, List.set_cons_zero, List.set_cons_succ, i64_w, i32_w]
         rfl
        refine done_ (done_of HT_.out (by kernel_rfl)) ?_
        have hnb33 := NB387_389.out
        have hnc33 := NB389_387.out
        obtain ⟨hcz34_0, hcz34_1, hfz34_0, hfz34_1⟩ := bz BK387
        try go_wp2
        refine bodyPost_ret (results_ct rfl _ _ gb387 25 #[.int .i64 0, .int .i64 0] (0, 0) _ rfl (by (repeat refine dw ?_); refine blk_put (cs := #[.int .i64 0, .int .i64 0]) ?_ 1 _ rfl; (repeat refine dw ?_); refine blk_put (cs := #[.int .i64 0, .int .i64 0]) ?_ 0 _ rfl; (repeat refine dw ?_); refine blk_far ?_ NB387_389.out _; (repeat refine dw ?_); refine blk_far ?_ NB387_389.out _; (repeat refine dw ?_); exact BK387.out) Tryz.underlying25 rfl (by kernel_rfl)) rfl ?_
        exact ⟨fe, bbl⟩
      ·rw [if_neg c19] at H
       exact absurd H (by simp)
     ·rw [if_neg c18] at H
      exact absurd H (by simp)
    ·rw [if_neg c17] at H
     have c17b0 : ((l1.length : Int) == 2) = false := beq_eq_false_iff_ne.mpr c17
     have c17b1 : ((l1.length : Int) != 2) = true := bne_iff_ne.mpr c17
     by_cases c35 : x7_4 = true
     ·subst c35
      replace H := iT H
      simp only [Option.some.injEq, Prod.mk.injEq] at H
      obtain ⟨rfl, rfl, rfl⟩ := H
      have hnb36 := NB389_387.out
      have hnc36 := NB387_389.out
      obtain ⟨hcz37_0, hcz37_1, hfz37_0, hfz37_1⟩ := bz BK389
      obtain ⟨hcz38_0, hcz38_1, hfz38_0, hfz38_1⟩ := bz BK387
      go_wp2
      refine bodyPost_ret (results_ct rfl _ _ gb387 25 #[.int .i64 x390000_4, .int .i64 x390001_4] (0, 0) _ rfl (by (repeat refine dw ?_); refine blk_put (cs := #[.int .i64 x390000_4, .int .i64 0]) ?_ 1 _ rfl; (repeat refine dw ?_); refine blk_put (cs := #[.int .i64 0, .int .i64 0]) ?_ 0 _ rfl; (repeat refine dw ?_); exact BK387.out) Tryz.underlying25 rfl (by kernel_rfl)) rfl ?_
      exact ⟨fe, bbl⟩
     ·replace c35 := Bool.eq_false_iff.mpr c35
      subst c35
      replace H := iF H
      simp only [Option.some.injEq, Prod.mk.injEq] at H
      obtain ⟨rfl, rfl, rfl⟩ := H
      have hnb39 := NB387_389.out
      have hnc39 := NB389_387.out
      obtain ⟨hcz40_0, hcz40_1, hfz40_0, hfz40_1⟩ := bz BK387
      go_wp2
      refine bodyPost_ret (results_ct rfl _ _ gb387 25 #[.int .i64 0, .int .i64 0] (0, 0) _ rfl (by (repeat refine dw ?_); refine blk_put (cs := #[.int .i64 0, .int .i64 0]) ?_ 1 _ rfl; (repeat refine dw ?_); refine blk_put (cs := #[.int .i64 0, .int .i64 0]) ?_ 0 _ rfl; (repeat refine dw ?_); exact BK387.out) Tryz.underlying25 rfl (by kernel_rfl)) rfl ?_
      exact ⟨fe, bbl⟩
 ·rw [if_neg c4] at H
  have c4b0 := beq_eq_false_iff_ne.mpr c4
  have c4b1 := bne_iff_ne.mpr c4
  simp only [Option.some.injEq, Prod.mk.injEq] at H
  obtain ⟨rfl, rfl, rfl⟩ := H
  go_enter Tryz.func17, Tryz.ntmps17
  go_wp2_with (first | ((with_reducible refine gate_dst (N := 4) rfl ?_); refine bxe (N := 4) (cs := #[.int .i64 0, .int .i64 0]) (t := 25) ?_; intro gb387 hg w41 hbox hb; have BK387 := Sd.mk hbox; have GW387 := bge w hg; have GE387 := bge w hg; replace HB := bsq w hb; clear hb hbox hg) | ((with_reducible refine gate_callee (f := 59) rfl ?_); refine goesL_ (some 9) rfl rfl Tryz.func59 (by kernel_rfl) rfl #[.slice A1 l1.length c1] rfl ma ?_; (with_reducible refine (r8_Check.calls k _ _ l1 t388 _ ?side1 ?side2 A3.out).mono ?_); (case side1 => repeat (first | exact (Kd.C_below HR1.out HB.out) | (with_reducible refine Kd.C_alloc ?_ _) | (with_reducible refine Kd.C_drewN ?_ _) | (with_reducible refine Kd.C_drew ?_))); (case side2 => exact HC1.out); rintro e w42 ⟨rfl, hb⟩; refine ⟨_, rfl, ?_⟩; replace BK387 := bkb BK387 hb; replace HB := bsq w hb; (try clear hb); have hcz43_0 := bz0 BK387; have hcz43_1 := bz1 BK387; have hfz43_0 := blk_frozen BK387.out 0; have hfz43_1 := blk_frozen BK387.out 1))
  refine bodyPost_ret (results_ct rfl _ _ gb387 25 #[.int .i64 0, .int .i64 0] (0, 0) _ rfl (by (repeat refine dw ?_); refine blk_put (cs := #[.int .i64 0, .int .i64 0]) ?_ 1 _ rfl; (repeat refine dw ?_); refine blk_put (cs := #[.int .i64 0, .int .i64 0]) ?_ 0 _ rfl; (repeat refine dw ?_); exact BK387.out) Tryz.underlying25 rfl (by kernel_rfl)) rfl ?_
  exact ⟨fe, bbl⟩
abbrev sb (l : List UInt8) : ByteArray := ⟨l.toArray⟩
theorem sb_toList (l : List UInt8) : (sb l).toList = l := by rw [Lib.toList_data]
theorem eq_sb (s : ByteArray) : s = sb s.toList := by
 apply ByteArray.ext
 show s.data = s.toList.toArray
 rw [Lib.toList_data]
theorem rnum_is (n : Int) : r8_Num.f n = some (vNum n) := by
 unfold r8_Num.f vNum r8_Plus.f r8_Minus.f
 split
 ·rfl
 ·split <;> rfl
theorem ris_is (a b : Int) : r8_Is.f a b = some (decide (isV (a, b))) := by
 unfold r8_Is.f
 by_cases hv : isV (a, b)
 ·rw [decide_eq_true hv]
  rcases hv with ⟨h, h1, h2⟩ | ⟨h, h1⟩
  ·have h' : a = 1 := h
   have h1' : -1000000000000000 ≤ b := h1
   have h2' : b ≤ 1000000000000000 := h2
   rw [if_pos h', if_pos h1', decide_eq_true h2']
  ·have h' : a = 2 ∨ a = 3 ∨ a = 4 ∨ a = 5 := h
   have h1' : b = 0 := h1
   rw [if_neg (by omega), if_pos (by omega), if_pos (by omega), h1']; rfl
 ·rw [decide_eq_false hv]
  by_cases h1 : a = 1
  ·rw [if_pos h1]
   by_cases h2 : b ≥ -1000000000000000
   ·rw [if_pos h2]
    have h3 : ¬ b ≤ 1000000000000000 := fun h3 => hv (.inl ⟨h1, h2, h3⟩)
    rw [decide_eq_false h3]
   ·rw [if_neg h2]
  ·rw [if_neg h1]
   by_cases h2 : a ≥ 2
   ·rw [if_pos h2]
    by_cases h3 : a ≤ 5
    ·rw [if_pos h3]
     have h4 : ¬ b = 0 := fun h4 => hv (.inr ⟨by show a = 2 ∨ a = 3 ∨ a = 4 ∨ a = 5; omega, h4⟩)
     congr 1
     exact beq_false_of_ne h4
    ·rw [if_neg h3]
   ·rw [if_neg h2]
theorem badV_is (x : S25) : badV x = !decide (isV (x.f0, x.f1)) := rfl
theorem rd_at {xs : List S25} {i : Nat} (h : i < xs.length) : rd_T25 xs (i : Int) = xs[i] := by
 unfold rd_T25
 rw [Int.toNat_natCast, List.getD_eq_getElem?_getD, List.getElem?_eq_getElem h]; rfl
theorem check_loop (l : List S25) (hm : l.length ≤ 4611686018427387904) : ∀ (d i : Nat), i + d = l.length → Ev (fun k => r8_Check.l0 k l (i : Int)) (if (l.drop i).any badV then 80 else 0)
 | 0, i, h => by
  have e : l.drop i = [] := List.drop_of_length_le (by omega)
  rw [e]
  refine ⟨1, fun k hk => ?_⟩
  obtain ⟨k, rfl⟩ : ∃ n, k = n + 1 := ⟨k - 1, by omega⟩
  simp only [r8_Check.l0]
  rw [if_neg (by omega)]
  rfl
 | d + 1, i, h => by
  have hi : i < l.length := by omega
  have e4 : wrap64 ((i : Int) + 1) = ((i + 1 : Nat) : Int) := by rw [wrap_id (by omega) (by omega)]; omega
  have he : l.drop i = l[i] :: l.drop (i + 1) := List.drop_eq_getElem_cons hi
  have ih := check_loop l hm d (i + 1) (by omega)
  rw [he, List.any_cons, badV_is]
  by_cases hv : isV (l[i].f0, l[i].f1)
  ·rw [decide_eq_true hv]
   refine Ev.step (fun k => ?_) ih
   simp only [r8_Check.l0]
   rw [if_pos (by omega), if_pos (by omega), rd_at hi, ris_is, decide_eq_true hv]
   simp only [Option.bind_some, if_true]
   rw [e4]
  ·rw [decide_eq_false hv]
   refine ⟨1, fun k hk => ?_⟩
   obtain ⟨k, rfl⟩ : ∃ n, k = n + 1 := ⟨k - 1, by omega⟩
   simp only [r8_Check.l0]
   rw [if_pos (by omega), if_pos (by omega), rd_at hi, ris_is, decide_eq_false hv]
   simp
theorem check_ev (l : List S25) (hm : l.length ≤ 4611686018427387904) : Ev (fun k => r8_Check.f k l) (if l.any badV then 80 else 0) := by
 have h := check_loop l hm l.length 0 (by omega)
 rw [List.drop_zero] at h
 exact h
theorem one_step' {α : Type} {g : Nat → Option α} {r : α} (h : ∀ k, g (k + 1) = some r) : Ev g r := ⟨1, fun k hk => by
 obtain ⟨k, rfl⟩ : ∃ m, k = m + 1 := ⟨k - 1, by omega⟩
 exact h k⟩
theorem const_ev {α : Type} {g : Nat → Option α} {r : α} (h : ∀ k, g k = some r) : Ev g r := ⟨0, fun k _ => h k⟩
/-- The kinds of a value. -/
theorem isV_cases {a : V} (h : isV a) : (a.1 = 1 ∧ -1000000000000000 ≤ a.2 ∧ a.2 ≤ 1000000000000000) ∨ a = (2, 0) ∨ a = (3, 0) ∨ a = (4, 0) ∨ a = (5, 0) := by
 rcases h with h | ⟨h, h0⟩
 ·exact .inl h
 ·right
  obtain ⟨k, n⟩ := a
  have h0' : n = 0 := h0
  have h' : k = 2 ∨ k = 3 ∨ k = 4 ∨ k = 5 := h
  subst h0'
  rcases h' with rfl | rfl | rfl | rfl <;> simp
theorem rtrue_is {a : V} (h : isV a) : r8_True.f a.1 a.2 = some (vTrue a) := by
 rcases isV_cases h with ⟨h1, h2, h3⟩ | rfl | rfl | rfl | rfl
 ·obtain ⟨k, n⟩ := a
  have h1' : k = 1 := h1
  subst h1'
  unfold r8_True.f vTrue
  by_cases h0 : n = 0
  ·subst h0; rfl
  ·simp [h0]
 all_goals rfl
theorem rtruth_is (b : Bool) : r8_Truth.f b = some (vTruth b) := by cases b <;> rfl
theorem rsign_ev {a : V} (h : isV a) : Ev (fun k => r8_sign.f k a.1 a.2) (vSign (vRank a)) := by
 rcases isV_cases h with ⟨h1, h2, h3⟩ | rfl | rfl | rfl | rfl
 ·rw [rank_num h1]
  refine one_step' fun k => ?_
  unfold r8_sign.f vSign
  rw [if_neg (by omega)]
  simp only [r8_sign.j0]
  rcases Int.lt_trichotomy a.2 0 with hn | hn | hn
  ·rw [decide_eq_false (by omega), if_neg (by decide), if_neg (by omega), if_pos hn, if_pos hn]
  ·rw [decide_eq_false (by omega), if_neg (by decide), if_neg (by omega), if_neg (by omega), if_neg (by omega), if_pos hn]
  ·rw [decide_eq_true hn, if_pos rfl, if_neg (by omega), if_neg (by omega)]
 all_goals exact one_step' fun k => rfl
/-- A value, turned round. -/
def vTurn (a : V) : V := if a.1 = 4 then (5, 0) else if a.1 = 5 then (4, 0) else (a.1, -a.2)
theorem rturned_is {a : V} (h : isV a) : r8_turned.f a.1 a.2 = some (vTurn a) := by
 have hn := isV_n h
 unfold r8_turned.f vTurn
 rw [wrap_id (by omega) (by omega)]
 split
 ·rfl
 ·split <;> rfl
theorem turn_num {a : V} (h : isV a) (h2 : a.1 ≠ 2) (h3 : a.1 ≠ 3) : vTurn a = vNum (-vRank a) := by
 rcases isV_cases h with ⟨h1, hl, hu⟩ | rfl | rfl | rfl | rfl
 ·rw [rank_num h1]
  unfold vTurn vNum
  rw [if_neg (by omega), if_neg (by omega), if_neg (by omega), if_neg (by omega), h1]
 ·exact absurd rfl h2
 ·exact absurd rfl h3
 ·rfl
 ·rfl
theorem isV_turn {a : V} (h : isV a) : isV (vTurn a) := by
 rcases isV_cases h with ⟨h1, hl, hu⟩ | rfl | rfl | rfl | rfl
 ·unfold vTurn
  rw [if_neg (by omega), if_neg (by omega)]
  exact .inl ⟨h1, by show -1000000000000000 ≤ -a.2; omega, by show -a.2 ≤ 1000000000000000; omega⟩
 all_goals (unfold vTurn isV; decide)
theorem num_rank {a : V} (h : isV a) (h2 : a.1 ≠ 2) (h3 : a.1 ≠ 3) : vNum (vRank a) = a := by
 rcases isV_cases h with ⟨h1, hl, hu⟩ | rfl | rfl | rfl | rfl
 ·rw [rank_num h1]
  unfold vNum
  rw [if_neg (by omega), if_neg (by omega)]
  exact Prod.ext h1.symm rfl
 ·exact absurd rfl h2
 ·exact absurd rfl h3
 ·rfl
 ·rfl
theorem rless_ev {a b : V} (ha : isV a) (hb : isV b) (a2 : a.1 ≠ 2) (a3 : a.1 ≠ 3) (b2 : b.1 ≠ 2) (b3 : b.1 ≠ 3) : Ev (fun k => r8_Less.f k a.1 a.2 b.1 b.2) (decide (vRank a < vRank b)) := by
 refine one_step' fun k => ?_
 unfold r8_Less.f r8_num.f
 simp only [Option.bind_some, r8_Less.j0]
 rcases isV_cases ha with ⟨h1, hl, hu⟩ | rfl | rfl | rfl | rfl
 ·rcases isV_cases hb with ⟨g1, gl, gu⟩ | rfl | rfl | rfl | rfl
  ·rw [rank_num h1, rank_num g1]; simp [h1, g1]
  ·exact absurd rfl b2
  ·exact absurd rfl b3
  ·rw [rank_num h1]; have : vRank (4, 0) = 1000000000000001 := rfl
   rw [this]; simp [h1]; omega
  ·rw [rank_num h1]; have : vRank (5, 0) = -1000000000000001 := rfl
   rw [this]; simp [h1]; omega
 ·exact absurd rfl a2
 ·exact absurd rfl a3
 ·have e : vRank (4, 0) = 1000000000000001 := rfl
  rcases isV_cases hb with ⟨g1, gl, gu⟩ | rfl | rfl | rfl | rfl
  ·rw [rank_num g1, e]; simp [g1]; omega
  ·exact absurd rfl b2
  ·exact absurd rfl b3
  ·rfl
  ·rfl
 ·have e : vRank (5, 0) = -1000000000000001 := rfl
  rcases isV_cases hb with ⟨g1, gl, gu⟩ | rfl | rfl | rfl | rfl
  ·rw [rank_num g1, e]; simp [g1]; omega
  ·exact absurd rfl b2
  ·exact absurd rfl b3
  ·rfl
  ·rfl
theorem rank_eq {a b : V} (ha : isV a) (hb : isV b) (a2 : a.1 ≠ 2) (a3 : a.1 ≠ 3) (b2 : b.1 ≠ 2) (b3 : b.1 ≠ 3) : vRank a = vRank b ↔ a = b :=
 ⟨fun h => by rw [← num_rank ha a2 a3, ← num_rank hb b2 b3, h], fun h => by rw [h]⟩
theorem pair_beq (a b : V) : (a.1 == b.1 && (a.2 == b.2)) = decide (a = b) := by
 rw [Bool.eq_iff_iff, Bool.and_eq_true, beq_iff_eq, beq_iff_eq, decide_eq_true_iff]
 exact ⟨fun h => Prod.ext h.1 h.2, fun h => by rw [h]; exact ⟨rfl, rfl⟩⟩
theorem radd_ev {a b : V} (ha : isV a) (hb : isV b) : Ev (fun k => r8_add.f k a.1 a.2 b.1 b.2) (vAdd a b) := by
 have na := isV_n ha
 have nb := isV_n hb
 refine one_step' fun k => ?_
 unfold r8_add.f r8_num.f
 simp only [Option.bind_some, r8_add.j0, r8_num.f, r8_NaN.f, rnum_is]
 rw [wrap_id (by omega) (by omega)]
 unfold vAdd
 by_cases h1 : a.1 = 1
 ·by_cases g1 : b.1 = 1
  ·simp [h1, g1]
  ·simp [h1, g1]
 ·by_cases g1 : b.1 = 1
  ·simp [h1, g1]
  ·rw [pair_beq]
   by_cases he : a = b
   ·simp [h1, g1, he]
   ·simp [h1, g1, he]
theorem rbeyond_is (s : Int) : r8_beyond.f s = some (vInf s) := by
 unfold r8_beyond.f vInf r8_Plus.f r8_Minus.f r8_NaN.f
 rcases Int.lt_trichotomy s 0 with h | h | h
 ·rw [if_neg (by omega), if_pos h, if_neg (by omega), if_pos h]; rfl
 ·rw [if_neg (by omega), if_neg (by omega), if_pos h]; rfl
 ·rw [if_pos h, if_neg (by omega), if_neg (by omega)]; rfl
theorem rsize_is {n : Int} (h : -1000000000000000 ≤ n ∧ n ≤ 1000000000000000) : r8_size.f n = some (n * vSign n) := by
 unfold r8_size.f vSign
 rcases Int.lt_trichotomy n 0 with h' | h' | h'
 ·rw [if_pos h', if_pos h', wrap_id (by omega) (by omega)]; congr 1; omega
 ·rw [if_neg (by omega), if_neg (by omega), if_pos h', h']; rfl
 ·rw [if_neg (by omega), if_neg (by omega), if_neg (by omega), Int.mul_one]
theorem mul_split (w r y : Int) (hr0 : 0 ≤ r) (hr : r < 1000) (hy : 0 ≤ y) : (1000 * w + r) * y / 1000 = w * y + r * y / 1000 := by
 have e : (1000 * w + r) * y = r * y + 1000 * (w * y) := by rw [Int.add_mul, Int.mul_assoc, Int.add_comm]
 rw [e, Int.add_mul_ediv_left _ _ (by decide), Int.add_comm]
theorem inf_num {s q : Int} (hs : s = -1 ∨ s = 1) (hq : 1000000000000000 < q) : vInf s = vNum (s * q) := by
 rcases hs with rfl | rfl
 ·unfold vInf vNum
  rw [if_neg (by decide), if_pos (by decide), if_neg (by omega), if_pos (by omega)]
 ·unfold vInf vNum
  rw [if_neg (by decide), if_neg (by decide), if_pos (by omega)]
theorem rtimes_ev {a b : V} (ha : isV a) (hb : isV b) : Ev (fun k => r8_times.f k a.1 a.2 b.1 b.2) (vMul a b) := by
 have na := isV_n ha
 have nb := isV_n hb
 have sa := vSign_range (vRank a)
 have sb' := vSign_range (vRank b)
 have ew : wrap64 (vSign (vRank a) * vSign (vRank b)) = vSign (vRank a) * vSign (vRank b) := by
  rcases sa with sa | sa | sa <;> rcases sb' with sb' | sb' | sb' <;> rw [sa, sb'] <;> exact wrap_id (by omega) (by omega)
 have num : ∀ k, (r8_num.f a.1 a.2).bind (fun t295 => (if t295 = true then ((r8_num.f b.1 b.2).bind fun t296 => (r8_times.j0 k (wrap64 (vSign (vRank a) * vSign (vRank b))) (!t296) a.1 a.2 b.1 b.2)) else (r8_times.j0 k (wrap64 (vSign (vRank a) * vSign (vRank b))) true a.1 a.2 b.1 b.2))) = r8_times.j0 k (vSign (vRank a) * vSign (vRank b)) (!(decide (a.1 = 1 ∧ b.1 = 1))) a.1 a.2 b.1 b.2 := by
  intro k
  unfold r8_num.f
  rw [ew]
  by_cases h1 : a.1 = 1
  ·by_cases g1 : b.1 = 1
   ·simp [h1, g1]
   ·have g1' : (b.1 == 1) = false := beq_false_of_ne g1
    simp [h1, g1, g1']
  ·simp [h1]
 unfold r8_times.f
 refine Ev.bind (f := fun k t293 => ((r8_sign.f k b.1 b.2).bind fun t294 => ((r8_num.f a.1 a.2).bind fun t295 => (if t295 = true then ((r8_num.f b.1 b.2).bind fun t296 => (r8_times.j0 k (wrap64 (t293 * t294)) (!t296) a.1 a.2 b.1 b.2)) else (r8_times.j0 k (wrap64 (t293 * t294)) true a.1 a.2 b.1 b.2))))) (rsign_ev ha) ?_
 refine Ev.bind (f := fun k t294 => ((r8_num.f a.1 a.2).bind fun t295 => (if t295 = true then ((r8_num.f b.1 b.2).bind fun t296 => (r8_times.j0 k (wrap64 (vSign (vRank a) * t294)) (!t296) a.1 a.2 b.1 b.2)) else (r8_times.j0 k (wrap64 (vSign (vRank a) * t294)) true a.1 a.2 b.1 b.2)))) (rsign_ev hb) ?_
 refine Ev.congr num ?_
 unfold vMul
 by_cases h : a.1 = 1 ∧ b.1 = 1
 ·rw [decide_eq_true h, if_pos h, rank_num h.1, rank_num h.2]
  rw [rank_num h.1] at sa
  rw [rank_num h.2] at sb'
  obtain ⟨xa, ya⟩ := abs_sign a.2
  obtain ⟨xb, yb⟩ := abs_sign b.2
  have ra := rsize_is na
  have rb := rsize_is nb
  have hz1 : vSign a.2 = 0 → a.2 * vSign a.2 = 0 := fun h => by rw [h, Int.mul_zero]
  have hz2 : vSign b.2 = 0 → b.2 * vSign b.2 = 0 := fun h => by rw [h, Int.mul_zero]
  obtain ⟨x, hx⟩ : ∃ x, a.2 * vSign a.2 = x := ⟨_, rfl⟩
  obtain ⟨y, hy⟩ : ∃ y, b.2 * vSign b.2 = y := ⟨_, rfl⟩
  rw [hx] at xa ya ra hz1 ⊢
  rw [hy] at xb yb rb hz2 ⊢
  have bx : x ≤ 1000000000000000 := by omega
  have by' : y ≤ 1000000000000000 := by omega
  obtain ⟨sg, hsg⟩ : ∃ sg, vSign a.2 * vSign b.2 = sg := ⟨_, rfl⟩
  have hs3 : sg = -1 ∨ sg = 0 ∨ sg = 1 := by
   rw [← hsg]
   rcases sa with sa | sa | sa <;> rcases sb' with sb' | sb' | sb' <;> rw [sa, sb'] <;> simp
  have hs0 : sg = 0 → x = 0 ∨ y = 0 := fun h => by
   rw [← hsg] at h
   rcases Int.mul_eq_zero.1 h with h | h
   ·exact .inl (hz1 h)
   ·exact .inr (hz2 h)
  rw [hsg]
  obtain ⟨w, hw⟩ : ∃ w, x / 1000 = w := ⟨_, rfl⟩
  obtain ⟨r, hr⟩ : ∃ r, x % 1000 = r := ⟨_, rfl⟩
  have ex : x = 1000 * w + r := by omega
  have w0 : 0 ≤ w := by omega
  have w1 : w ≤ 1000000000000 := by omega
  have r0 : 0 ≤ r := by omega
  have r1 : r < 1000 := by omega
  have eq1 : wrap64 (Int.tdiv x 1000) = w := by rw [Int.tdiv_eq_ediv_of_nonneg xa, wrap_id (by omega) (by omega), hw]
  have eq2 : Int.tmod x 1000 = r := by rw [Int.tmod_eq_emod_of_nonneg xa, hr]
  have eq3 : x * y / 1000 = w * y + r * y / 1000 := by rw [ex]; exact mul_split w r y r0 r1 xb
  have ry0 : 0 ≤ r * y := Int.mul_nonneg r0 xb
  have ry1 : r * y ≤ 999 * 1000000000000000 := Int.le_trans (Int.mul_le_mul_of_nonneg_right (by omega) xb) (Int.mul_le_mul_of_nonneg_left by' (by omega))
  rw [eq3]
  refine Ev.step (f := fun k => r8_times.j1 k sg y w r (decide (0 < w ∧ y > 1000000000000000 / w))) (fun k => ?_) ?_
  ·simp only [r8_times.j0]
   rw [if_neg (by decide), ra, rb]
   simp only [Option.bind_some, eq1, eq2]
   by_cases hw0 : w > 0
   ·have hd0 : 0 ≤ 1000000000000000 / w := Int.ediv_nonneg (by decide) w0
    have hd1 : 1000000000000000 / w ≤ 1000000000000000 := Int.ediv_le_self _ (by decide)
    rw [if_pos hw0, if_neg (by omega), wrap_id (by omega) (by omega)]
    by_cases hy2 : y > 1000000000000000 / w
    ·rw [decide_eq_true hy2, decide_eq_true ⟨hw0, hy2⟩]
    ·rw [decide_eq_false hy2, decide_eq_false (fun h => hy2 h.2)]
   ·rw [if_neg hw0, decide_eq_false (fun h => hw0 h.1)]
  ·by_cases hb2 : 0 < w ∧ y > 1000000000000000 / w
   ·rw [decide_eq_true hb2]
    have hgt : 1000000000000000 < w * y := by
     have h1 := Int.lt_mul_of_ediv_lt hb2.1 hb2.2
     rw [Int.mul_comm] at h1
     omega
    have hsn : sg = -1 ∨ sg = 1 := by
     rcases hs3 with h | h | h
     ·exact .inl h
     ·rcases hs0 h with h | h
      ·omega
      ·rw [h, Int.mul_zero] at hgt; omega
     ·exact .inr h
    have hry : 0 ≤ r * y / 1000 := Int.ediv_nonneg ry0 (by decide)
    rw [← inf_num hsn (show 1000000000000000 < w * y + r * y / 1000 by omega)]
    refine one_step' fun k => ?_
    simp only [r8_times.j1, if_true]
    rw [rbeyond_is]
    rfl
   ·rw [decide_eq_false hb2]
    have hle : w * y ≤ 1000000000000000 := by
     by_cases hw0 : 0 < w
     ·have h1 : y ≤ 1000000000000000 / w := by
       rcases Int.lt_or_le (1000000000000000 / w) y with h | h
       ·exact absurd ⟨hw0, h⟩ hb2
       ·exact h
      have h2 := Int.mul_le_of_le_ediv hw0 h1
      rw [Int.mul_comm] at h2
      exact h2
     ·have : w = 0 := by omega
      rw [this, Int.zero_mul]; decide
    have hwy : 0 ≤ w * y := Int.mul_nonneg w0 xb
    have hq0 : 0 ≤ r * y / 1000 := Int.ediv_nonneg ry0 (by decide)
    have hq1 : r * y / 1000 ≤ 999000000000000 := by omega
    refine one_step' fun k => ?_
    simp only [r8_times.j1]
    rw [if_neg (by decide), wrap_id (n := w * y) (by omega) (by omega), wrap_id (n := r * y) (by omega) (by omega), Int.tdiv_eq_ediv_of_nonneg ry0, wrap_id (n := r * y / 1000) (by omega) (by omega), wrap_id (n := w * y + r * y / 1000) (by omega) (by omega)]
    have hss : wrap64 (sg * (w * y + r * y / 1000)) = sg * (w * y + r * y / 1000) := by
     rcases hs3 with h | h | h <;> rw [h] <;> exact wrap_id (by omega) (by omega)
    rw [hss, rnum_is]
    rfl
 ·rw [decide_eq_false h, if_neg h]
  refine one_step' fun k => ?_
  simp only [r8_times.j0]
  rw [if_pos (by decide), rbeyond_is]
  rfl
open Go.Proofs.YtcmiehddjgfjaaaGreat.St Go.Proofs.YtcmiehddjgfjaaaGreat.Stable
/-- What a list of the law's own becomes: the list, in a row. -/
theorem own_calls (A : Option Addr) (c : Nat) (l : List Ser) (hl : SersOk l) (w : World) (hr : Kd.C k37 w A l.length l) (hc : l.length ≤ c) :
  Calls Tryz.prog 15 #[.slice A l.length c] w fun e w' => ∃ (A' : Option Addr) (c' : Nat), e = .returned (.slice A' l.length c') ∧ Kd.N k37 37 w' w.heap.size (fun _ => True) (.slice A' l.length c') l ∧ Kd.C k37 w' A' l.length l ∧ l.length ≤ c' ∧ Below w.heap.size w w' := by
 obtain ⟨k, hk⟩ := (own_ev l hl).rounds
 refine (l10_own.calls k A c l l w hr hc hk).mono ?_
 rintro e w' ⟨v, rfl, hs, hb⟩
 have hN := Kd.S_N hs
 obtain ⟨A', c', rfl, h1, h2⟩ := Kd.N_reads hN
 exact ⟨A', c', rfl, hN, h2, h1, hb⟩
/-- series.Sort, of a row, told so. -/
theorem sort_calls' (A : Option Addr) (c : Nat) (l : List Ser) (hl : SersOk l) (w : World) (hr : Kd.C k37 w A l.length l) {s : List Ser} {e0 : Int} (hs : vSort l = (s, e0)) :
  Calls Tryz.prog 14 #[.slice A l.length c] w fun e w' => ∃ (A' : Option Addr) (c' : Nat), e = .returned (.tuple #[.slice A' s.length c', .int .i64 e0]) ∧ Kd.C k37 w' A' s.length s ∧ s.length ≤ c' ∧ Below w.heap.size w w' := by
 have h := ssort_calls A c l hl w hr
 rw [hs] at h
 refine h.mono ?_
 rintro e w' ⟨v, rfl, hN, hb⟩
 obtain ⟨A', c', rfl, h1, h2⟩ := Kd.N_reads hN
 exact ⟨A', c', rfl, h2, h1, hb⟩
/-- Element i of a list that came in. -/
theorem came_at {w : World} {A : Option Addr} {n : Nat} {l : List Ser} (hr : Kd.C k37 w A n l) (i : Nat) (hi : i < l.length) :
  ∃ ad A0 c0, A = some ad ∧ w.cell? (ad.add (i * 3)) = some (.slice A0 (l[i]).f0.length c0) ∧ w.cell? ⟨(ad.add (i * 3)).block, (ad.add (i * 3)).off + 1, none⟩ = some (.int .i64 (l[i]).f1.f0) ∧ w.cell? ⟨(ad.add (i * 3)).block, (ad.add (i * 3)).off + 2, none⟩ = some (.int .i64 (l[i]).f1.f1) ∧ Kd.FK k37 w (fun k => k < w.heap.size) l[i] [.slice A0 (l[i]).f0.length c0, .int .i64 (l[i]).f1.f0, .int .i64 (l[i]).f1.f1] := by
 have hn := hr.1
 obtain ⟨ad, c, rfl, hl, hK, hc, _⟩ := Kd.F_get (Kd.C_F heapSer hr) z37 (i : Int) (by omega) (by omega)
 rw [Int.toNat_natCast, List.getD_eq_getElem?_getD, List.getElem?_eq_getElem hi] at hK
 rw [Int.toNat_natCast] at hc
 obtain ⟨A0, c0, rfl, l0, g0⟩ := k37_open (Kd.FK_now hK)
 exact ⟨ad, A0, c0, rfl, hc 0 _ rfl, by rw [← add_field _ _ 1 (by omega)]; exact hc 1 _ rfl, by rw [← add_field _ _ 2 (by omega)]; exact hc 2 _ rfl, hK⟩
attribute [local go_sem high] eqA25
/-- A frame of values. -/
structure Fr (s : List Ser) : Prop where
 set : ∀ x ∈ s, isSet x.f0 = true
 val : ∀ x ∈ s, isV (x.f1.f0, x.f1.f1)
 str : Strict cmpSer s
 len : s.length ≤ 200
theorem Fr.of {l s : List Ser} (h : vSort l = (s, 0)) : Fr s := by
 have e : (vSort l).2 = 0 := by rw [h]
 have e1 : (vSort l).1 = s := by rw [h]
 rw [← e1]
 exact ⟨fun x hx => (vSort_ok e).1 x ((vSort_mem e).1 hx), fun x hx => (vSort_ok e).2.1 x ((vSort_mem e).1 hx), vSort_isStrict e, vSort_len e⟩
theorem Fr.sort {s : List Ser} (h : Fr s) : vSort s = (s, 0) := vSort_strict h.set h.val h.str h.len
theorem Fr.sers {s : List Ser} (h : Fr s) : SersOk s := by
 have := sers_ok (l := s) (by rw [h.sort])
 rw [h.sort] at this
 exact this
theorem Fr.map {s : List Ser} (h : Fr s) (op : ByteArray) (hop : (vDo op [(1, 0)]).2 = 0) : vMap op s = (s.map (mapV op), 0) := by
 unfold vMap
 rw [h.sort, if_pos rfl, if_pos hop]
theorem numb_isV {F : V → V → V} {a b : V} (h : isV (F a b)) : isV (vNumbers F a b) := by
 unfold vNumbers
 split
 ·exact .inr ⟨.inr (.inl rfl), rfl⟩
 ·exact h
theorem add_isV {a b : V} (ha : isV a) (hb : isV b) : isV (vAdd a b) := by
 unfold vAdd
 repeat' split
 all_goals first | exact isV_num | exact ha | exact hb | exact .inr ⟨.inr (.inl rfl), rfl⟩
theorem mul_isV (a b : V) : isV (vMul a b) := by
 unfold vMul
 split
 ·exact isV_num
 ·exact isV_inf _
theorem div_isV {a : V} (b : V) (ha : isV a) : isV (vDiv a b) := by
 unfold vDiv
 repeat' split
 all_goals first | exact isV_num | exact ha | exact isV_inf _ | exact .inr ⟨.inr (.inl rfl), rfl⟩
theorem sub_isV {a : V} (b : V) (ha : isV a) : isV (vSub a b) := add_isV ha isV_num
theorem ord_isV (no : Bool) (F : Int → Int → Bool) (a b : V) : isV (vOrder no F a b) := isV_truth _
/-- What an operation of two values gives is a value. -/
theorem two_isV {op : ByteArray} {F : V → V → V} (ht : tab2.lookup op = some F) {a b : V} (ha : isV a) (hb : isV b) : isV (F a b) := by
 have hm : ∃ k, (k, F) ∈ tab2 := by
  have : ∀ l : List (ByteArray × (V → V → V)), l.lookup op = some F → ∃ k, (k, F) ∈ l := by
   intro l
   induction l with
   | nil => intro h; cases h
   | cons x l ih =>
    obtain ⟨k, G⟩ := x
    intro h
    rw [List.lookup] at h
    split at h
    ·injection h with h; subst h; exact ⟨k, List.mem_cons_self ..⟩
    ·obtain ⟨k', hk'⟩ := ih h; exact ⟨k', List.mem_cons_of_mem _ hk'⟩
  exact this _ ht
 obtain ⟨k, hm⟩ := hm
 simp only [tab2, List.mem_cons, List.not_mem_nil, or_false, Prod.mk.injEq] at hm
 rcases hm with ⟨_, rfl⟩ | ⟨_, rfl⟩ | ⟨_, rfl⟩ | ⟨_, rfl⟩ | ⟨_, rfl⟩ | ⟨_, rfl⟩ | ⟨_, rfl⟩ | ⟨_, rfl⟩ | ⟨_, rfl⟩ | ⟨_, rfl⟩ | ⟨_, rfl⟩ | ⟨_, rfl⟩
 ·exact numb_isV (add_isV ha hb)
 ·exact numb_isV (sub_isV b ha)
 ·exact numb_isV (mul_isV a b)
 ·exact numb_isV (div_isV b ha)
 ·exact ord_isV _ _ _ _
 ·exact ord_isV _ _ _ _
 ·exact ord_isV _ _ _ _
 ·exact ord_isV _ _ _ _
 ·exact ord_isV _ _ _ _
 ·exact ord_isV _ _ _ _
 ·exact isV_truth _
 ·exact isV_truth _
/-- The operation is known. -/
theorem do_known {op : ByteArray} (h : (vDo op [(1, 0), (1, 0)]).2 = 0) : ∃ F, tab2.lookup op = some F := by
 have hb : ([((1 : Int), (0 : Int)), (1, 0)].any fun x => !decide (isV x)) = false := by
  simp [show isV ((1 : Int), (0 : Int)) from .inl ⟨rfl, by decide, by decide⟩]
 unfold vDo at h
 rw [hb, if_neg (by decide)] at h
 simp only at h
 cases ht : tab2.lookup op with
 | some F => exact ⟨F, rfl⟩
 | none => rw [ht] at h; exact absurd h (by decide)
theorem vdo_2 {op : ByteArray} {F : V → V → V} (ht : tab2.lookup op = some F) {a b : V} (ha : isV a) (hb : isV b) : vDo op [a, b] = (vTwo F a b, 0) := by
 unfold vDo vTwo
 have hn : ([a, b].any fun x => !decide (isV x)) = false := by simp [ha, hb]
 rw [hn]
 simp only [Bool.false_eq_true, if_false, ht]
 split <;> rfl
theorem vdo_isV {op : ByteArray} (h : (vDo op [(1, 0), (1, 0)]).2 = 0) {a b : V} (ha : isV a) (hb : isV b) : isV (vDo op [a, b]).1 := by
 obtain ⟨F, ht⟩ := do_known h
 rw [vdo_2 ht ha hb]
 show isV (vTwo F a b)
 unfold vTwo
 split
 ·exact .inr ⟨.inl rfl, rfl⟩
 ·exact two_isV ht ha hb
def scal (v : V) : Ser := ⟨[], ⟨v.1, v.2⟩⟩
theorem scal_fr {v : V} (hv : isV v) : Fr [scal v] :=
 ⟨fun x hx => by rw [List.mem_singleton.1 hx]; kernel_rfl, fun x hx => by rw [List.mem_singleton.1 hx]; exact hv, List.pairwise_singleton _ _, by rw [List.length_singleton]; omega⟩
theorem inC_nil (x : List Lab) : inC [] x = true := rfl
/-- A value of the frame, beside the scalar. -/
def rVal (op : ByteArray) (v : V) (x : Ser) : Ser := ⟨x.f0, ⟨(vDo op [(x.f1.f0, x.f1.f1), v]).1.1, (vDo op [(x.f1.f0, x.f1.f1), v]).1.2⟩⟩
def lVal (op : ByteArray) (v : V) (x : Ser) : Ser := ⟨x.f0, ⟨(vDo op [v, (x.f1.f0, x.f1.f1)]).1.1, (vDo op [v, (x.f1.f0, x.f1.f1)]).1.2⟩⟩
theorem fr_val {op : ByteArray} {s : List Ser} (h : Fr s) (f : Ser → Ser) (hf : ∀ x ∈ s, (f x).f0 = x.f0 ∧ isV ((f x).f1.f0, (f x).f1.f1)) : Fr (s.map f) := by
 refine ⟨fun x hx => ?_, fun x hx => ?_, ?_, by rw [List.length_map]; exact h.len⟩
 ·obtain ⟨y, hy, rfl⟩ := List.mem_map.1 hx; rw [(hf y hy).1]; exact h.set y hy
 ·obtain ⟨y, hy, rfl⟩ := List.mem_map.1 hx; exact (hf y hy).2
 ·have hs := h.str
  unfold Strict at hs ⊢
  rw [List.pairwise_map]
  refine hs.imp_of_mem fun {a b} ha hb hc => ?_
  unfold cmpSer at hc ⊢
  rw [(hf a ha).1, (hf b hb).1]
  exact hc
theorem pairs_r {op : ByteArray} {s : List Ser} (h : Fr s) (v : V) : pairsJ op s [scal v] = s.map (rVal op v) := by
 have key : ∀ t : List Ser, (∀ x ∈ t, isSet x.f0 = true) → pairsJ op t [scal v] = t.map (rVal op v) := by
  intro t
  induction t with
  | nil => intro _; rfl
  | cons x t ih =>
   intro ht
   have hfit : fits x (scal v) = true := by
    unfold fits
    show (inC x.f0 [] || inC [] x.f0) = true
    rw [inC_nil, Bool.or_true]
   have e : pairsJ op (x :: t) [scal v] = rowJ op x [scal v] ++ pairsJ op t [scal v] := by unfold pairsJ; rw [List.flatMap_cons]
   have e2 : rowJ op x [scal v] = [joinS op x (scal v)] := by unfold rowJ; simp [hfit]
   have hl := joinS_labels (op := op) (ht x (List.mem_cons_self ..)) (show isSet (scal v).f0 = true by kernel_rfl) hfit
   have e3 : joinS op x (scal v) = rVal op v x := by
    have hl2 : (joinS op x (scal v)).f0 = x.f0 := by
     rw [hl, if_neg (by show ¬ x.f0.length < 0; omega)]
    show (⟨(joinS op x (scal v)).f0, _⟩ : Ser) = _
    rw [hl2]; rfl
   rw [e, e2, e3, ih (fun y hy => ht y (List.mem_cons_of_mem _ hy))]
   rfl
 exact key s h.set
theorem pairs_l {op : ByteArray} {s : List Ser} (h : Fr s) (v : V) : pairsJ op [scal v] s = s.map (lVal op v) := by
 have e0 : pairsJ op [scal v] s = rowJ op (scal v) s := by unfold pairsJ; simp
 rw [e0]
 unfold rowJ
 have hfit : ∀ x ∈ s, fits (scal v) x = true := fun x hx => by
  unfold fits
  show (inC [] x.f0 || inC x.f0 []) = true
  rw [inC_nil, Bool.true_or]
 rw [List.filter_eq_self.2 hfit]
 refine List.map_congr_left fun x hx => ?_
 have hl := joinS_labels (op := op) (show isSet (scal v).f0 = true by kernel_rfl) (h.set x hx) (hfit x hx)
 have hl2 : (joinS op (scal v) x).f0 = x.f0 := by
  rw [hl]
  split
  ·rfl
  ·rename_i hc
   have : ¬ 0 < x.f0.length := hc
   have e : x.f0 = [] := List.eq_nil_of_length_eq_zero (by omega)
   rw [e]; rfl
 show (⟨(joinS op (scal v) x).f0, _⟩ : Ser) = _
 rw [hl2]; rfl
/-- What a frame joined to a scalar is: nothing and an error, or each value's answer. -/
theorem join_r {op : ByteArray} {l s : List Ser} {e0 : Int} (hs : vSort l = (s, e0)) {v : V} (hv : isV v) :
  vJoin op l [scal v] = if e0 = 0 then (if (vDo op [(1, 0), (1, 0)]).2 = 0 then (s.map (rVal op v), 0) else ([], 2)) else ([], e0) := by
 unfold vJoin
 rw [hs, (scal_fr hv).sort]
 simp only
 by_cases h0 : e0 = 0
 ·subst h0
  have hF := Fr.of hs
  rw [if_pos rfl, if_pos rfl, if_pos trivial]
  by_cases hk : (vDo op [(1, 0), (1, 0)]).2 = 0
  ·rw [if_pos hk, if_pos hk, pairs_r hF v, (fr_val (op := op) hF (rVal op v) (fun x hx => ⟨rfl, vdo_isV hk (hF.val x hx) hv⟩)).sort]
  ·rw [if_neg hk, if_neg hk]
 ·rw [if_neg h0, if_neg h0]
theorem join_l {op : ByteArray} {l s : List Ser} {e0 : Int} (hs : vSort l = (s, e0)) {v : V} (hv : isV v) :
  vJoin op [scal v] l = if e0 = 0 then (if (vDo op [(1, 0), (1, 0)]).2 = 0 then (s.map (lVal op v), 0) else ([], 2)) else ([], e0) := by
 unfold vJoin
 rw [hs, (scal_fr hv).sort]
 simp only
 rw [if_pos trivial]
 by_cases h0 : e0 = 0
 ·subst h0
  have hF := Fr.of hs
  rw [if_pos rfl, if_pos rfl]
  by_cases hk : (vDo op [(1, 0), (1, 0)]).2 = 0
  ·rw [if_pos hk, if_pos hk, pairs_l hF v, (fr_val (op := op) hF (lVal op v) (fun x hx => ⟨rfl, vdo_isV hk hv (hF.val x hx)⟩)).sort]
  ·rw [if_neg hk, if_neg hk]
 ·rw [if_neg h0, if_neg h0]
theorem rover_ev {a b : V} (ha : isV a) (hb : isV b) (a2 : a.1 ≠ 2) (a3 : a.1 ≠ 3) (b2 : b.1 ≠ 2) (b3 : b.1 ≠ 3) : Ev (fun k => r8_over.f k a.1 a.2 b.1 b.2) (vDiv a b) := by
 have na := isV_n ha
 have nb := isV_n hb
 have hnum : ∀ x y : Int, r8_num.f x y = some (x == 1) := fun _ _ => rfl
 have e3 : wrap64 ((a.2 * 1000).tdiv b.2) = (a.2 * 1000).tdiv b.2 := by
  have h := Int.natAbs_tdiv_le_natAbs (a.2 * 1000) b.2
  exact wrap_id (by omega) (by omega)
 have e2 : wrap64 (a.2 * 1000) = a.2 * 1000 := wrap_id (by omega) (by omega)
 unfold vDiv
 by_cases h1 : a.1 = 1
 ·by_cases g1 : b.1 = 1
  ·rw [if_pos g1, if_pos h1]
   by_cases h0 : b.2 = 0
   ·rw [if_pos h0]
    have hs := rsign_ev ha
    rw [rank_num h1] at hs
    have hinf : vInf (vSign a.2) = vInf a.2 := by
     rcases Int.lt_trichotomy a.2 0 with h | h | h
     ·have e : vSign a.2 = -1 := by unfold vSign; rw [if_pos h]
      rw [e]; unfold vInf; rw [if_neg (by decide), if_pos (by decide), if_neg (by omega), if_pos h]
     ·rw [h]; rfl
     ·have e : vSign a.2 = 1 := by unfold vSign; rw [if_neg (by omega), if_neg (by omega)]
      rw [e]; unfold vInf; rw [if_neg (by decide), if_neg (by decide), if_neg (by omega), if_neg (by omega)]
    refine Ev.congr (f := fun k => r8_over.j0 k true a.1 a.2 b.1 b.2) (fun k => ?_) ?_
    ·unfold r8_over.f
     simp only [hnum, Option.bind_some, h1, g1, h0]
     rfl
    ·refine Ev.step (f := fun k => (r8_sign.f k a.1 a.2).bind fun t310 => ((r8_beyond.f t310).bind fun bt311 => (some (bt311.1, bt311.2)))) (fun k => ?_) ?_
     ·simp only [r8_over.j0, if_true]
     ·refine Ev.bind (f := fun k t310 => ((r8_beyond.f t310).bind fun bt311 => (some (bt311.1, bt311.2)))) hs ⟨0, fun k _ => ?_⟩
      show (r8_beyond.f (vSign a.2)).bind _ = _
      rw [rbeyond_is, hinf]; rfl
   ·rw [if_neg h0]
    have q1 : Ev (fun k => r8_over.j1 k true a.1 a.2 b.1 b.2) (vNum ((a.2 * 1000).tdiv b.2)) := by
     refine one_step' fun k => ?_
     simp only [r8_over.j1, if_true]
     rw [if_neg h0, e2, e3, rnum_is]; rfl
    refine Ev.congr (f := fun k => r8_over.j0 k false a.1 a.2 b.1 b.2) (fun k => ?_) (Ev.step (fun k => ?_) q1)
    ·unfold r8_over.f
     rw [beq_false_of_ne h0]
     simp only [hnum, Option.bind_some, h1, g1]
     rfl
    ·simp only [r8_over.j0, hnum, Option.bind_some, h1, g1]
     rfl
  ·rw [if_neg g1, if_pos h1]
   have g1' : (b.1 == 1) = false := beq_false_of_ne g1
   have q1 : Ev (fun k => r8_over.j1 k false a.1 a.2 b.1 b.2) (vNum 0) := by
    refine one_step' fun k => ?_
    simp only [r8_over.j1, hnum, Option.bind_some, h1, g1', rnum_is]
    rfl
   refine Ev.congr (f := fun k => r8_over.j0 k false a.1 a.2 b.1 b.2) (fun k => ?_) (Ev.step (fun k => ?_) q1)
   ·unfold r8_over.f
    simp only [hnum, Option.bind_some, h1, g1']
    rfl
   ·simp only [r8_over.j0, hnum, Option.bind_some, h1, g1']
    rfl
 ·have h1' : (a.1 == 1) = false := beq_false_of_ne h1
  have start : ∀ {r : Int × Int}, Ev (fun k => r8_over.j1 k false a.1 a.2 b.1 b.2) r → Ev (fun k => r8_over.f k a.1 a.2 b.1 b.2) r := fun q1 => by
   refine Ev.congr (f := fun k => r8_over.j0 k false a.1 a.2 b.1 b.2) (fun k => ?_) (Ev.step (fun k => ?_) q1)
   ·unfold r8_over.f
    simp only [hnum, Option.bind_some, h1']
    rfl
   ·simp only [r8_over.j0, hnum, Option.bind_some, h1']
    rfl
  refine start ?_
  by_cases g1 : b.1 = 1
  ·rw [if_pos g1, if_neg h1]
   refine Ev.step (f := fun k => r8_over.j2 k (decide (b.2 < 0)) a.1 a.2 b.1 b.2) (fun k => ?_) ?_
   ·simp only [r8_over.j1, hnum, Option.bind_some, h1', g1]
    rfl
   ·by_cases hn : b.2 < 0
    ·rw [if_pos hn, decide_eq_true hn]
     refine one_step' fun k => ?_
     simp only [r8_over.j2, if_true]
     rw [rturned_is ha, turn_num ha a2 a3]; rfl
    ·rw [if_neg hn, decide_eq_false hn]
     refine one_step' fun k => ?_
     simp only [r8_over.j2, hnum, Option.bind_some, g1]
     rfl
  ·have g1' : (b.1 == 1) = false := beq_false_of_ne g1
   rw [if_neg g1, if_neg h1]
   refine Ev.step (f := fun k => r8_over.j2 k false a.1 a.2 b.1 b.2) (fun k => ?_) ?_
   ·simp only [r8_over.j1, hnum, Option.bind_some, h1', g1']
    rfl
   ·refine one_step' fun k => ?_
    simp only [r8_over.j2, hnum, Option.bind_some, g1']
    rfl
/-- An operation's answer, with whether there is one. -/
def one3 (op : ByteArray) (a : V) : Int × Int × Bool := match tab1.lookup op with | some F => ((F a).1, (F a).2, true) | none => (0, 0, false)
theorem sb_inj {a b : ByteArray} : a.toList = b.toList ↔ a = b := ⟨fun h => by rw [eq_sb a, eq_sb b, h], fun h => by rw [h]⟩
theorem ba_ne {a b : ByteArray} (h : a ≠ b) : (a == b) = false := by
 rcases a with ⟨a⟩
 rcases b with ⟨b⟩
 have h' : a ≠ b := fun e => h (by rw [e])
 show (a == b) = false
 exact beq_false_of_ne h'
theorem op_ne {op : ByteArray} {l : List UInt8} (h : op ≠ sb l) : ¬ op.toList = l := fun h' => h (by rw [eq_sb op, h'])
theorem floor_eq (n : Int) : n - (n.tmod 1000 + 1000).tmod 1000 = if n.tmod 1000 < 0 then n - (n.tmod 1000 + 1000) else n - n.tmod 1000 := by
 have h1 := Int.tmod_lt_of_pos n (show (0 : Int) < 1000 by decide)
 have h2 := Int.lt_tmod_of_pos n (show (0 : Int) < 1000 by decide)
 rw [Int.tmod_eq_emod_of_nonneg (show 0 ≤ n.tmod 1000 + 1000 by omega)]
 split <;> omega
theorem one_j0_cases {op : ByteArray} {a : V} (ha : isV a) (hop : op = sb [45] ∨ op = sb [97, 98, 115] ∨ op = sb [102, 108, 111, 111, 114] ∨ op = sb [33]) : Ev (fun k => r8_one.j0 k op a.1 a.2) (one3 op a) := by
 have hnum : ∀ x y : Int, r8_num.f x y = some (x == 1) := fun _ _ => rfl
 have na := isV_n ha
 have t1 : (sb [45]).toList = [45] := sb_toList _
 have t2 : (sb [97, 98, 115]).toList = [97, 98, 115] := sb_toList _
 have t3 : (sb [102, 108, 111, 111, 114]).toList = [102, 108, 111, 111, 114] := sb_toList _
 have t4 : (sb [33]).toList = [33] := sb_toList _
 have o1 : one3 (sb [45]) a = ((vPlain (fun n => -n) a).1, (vPlain (fun n => -n) a).2, true) := rfl
 have o2 : one3 (sb [97, 98, 115]) a = ((vPlain vMax a).1, (vPlain vMax a).2, true) := rfl
 have o3 : one3 (sb [102, 108, 111, 111, 114]) a = ((vFloor a).1, (vFloor a).2, true) := rfl
 have o4 : one3 (sb [33]) a = ((vNot a).1, (vNot a).2, true) := rfl
 by_cases h2 : a.1 = 2
 ·have e : one3 op a = (a.1, a.2, true) := by
   rcases hop with rfl | rfl | rfl | rfl
   ·rw [o1]; unfold vPlain; rw [if_pos h2]
   ·rw [o2]; unfold vPlain; rw [if_pos h2]
   ·rw [o3]; unfold vFloor; rw [if_neg (by omega)]
   ·rw [o4]; unfold vNot; rw [if_pos h2]
  rw [e]
  refine one_step' fun k => ?_
  simp only [r8_one.j0]
  rw [if_pos h2]
 ·by_cases h4 : op = sb [33]
  ·subst h4
   rw [o4]
   refine one_step' fun k => ?_
   simp only [r8_one.j0]
   rw [if_neg h2, t4, if_pos rfl, rtrue_is ha]
   simp only [Option.bind_some, rtruth_is]
   unfold vNot
   rw [if_neg h2]
  ·by_cases h3 : a.1 = 3
   ·have e : one3 op a = (a.1, a.2, true) := by
     rcases hop with rfl | rfl | rfl | rfl
     ·rw [o1]; unfold vPlain; rw [if_neg h2, if_pos h3]
     ·rw [o2]; unfold vPlain; rw [if_neg h2, if_pos h3]
     ·rw [o3]; unfold vFloor; rw [if_neg (by omega)]
     ·exact absurd rfl h4
    rw [e]
    refine one_step' fun k => ?_
    simp only [r8_one.j0]
    rw [if_neg h2, if_neg (op_ne h4), if_pos h3]
   ·have turn : Ev (fun k => r8_one.j1 k op true a.1 a.2) ((vTurn a).1, (vTurn a).2, true) := by
     refine one_step' fun k => ?_
     simp only [r8_one.j1, if_true]
     rw [rturned_is ha]; rfl
    rcases hop with rfl | rfl | rfl | rfl
    ·rw [o1]
     have e : vPlain (fun n => -n) a = vTurn a := by
      unfold vPlain; rw [if_neg h2, if_neg h3, turn_num ha h2 h3]
     rw [e]
     refine Ev.step (fun k => ?_) turn
     simp only [r8_one.j0]
     rw [if_neg h2, if_neg (op_ne h4), if_neg h3, t1, if_pos rfl]
    ·rw [o2]
     have hsr : decide (vSign (vRank a) < 0) = decide (vRank a < 0) := by
      unfold vSign
      rcases Int.lt_trichotomy (vRank a) 0 with h | h | h
      ·rw [if_pos h, decide_eq_true h]; rfl
      ·rw [if_neg (by omega), if_pos h, decide_eq_false (show ¬ vRank a < 0 by omega)]; rfl
      ·rw [if_neg (by omega), if_neg (by omega), decide_eq_false (show ¬ vRank a < 0 by omega)]; rfl
     refine Ev.step (f := fun k => (r8_sign.f k a.1 a.2).bind fun t258 => (r8_one.j1 k (sb [97, 98, 115]) (decide (t258 < 0)) a.1 a.2)) (fun k => ?_) ?_
     ·simp only [r8_one.j0]
      rw [if_neg h2, if_neg (op_ne h4), if_neg h3, t2, if_neg (by decide), if_pos rfl]
     ·refine Ev.bind (f := fun k t258 => (r8_one.j1 k (sb [97, 98, 115]) (decide (t258 < 0)) a.1 a.2)) (rsign_ev ha) ?_
      rw [hsr]
      by_cases hn : vRank a < 0
      ·rw [decide_eq_true hn]
       have e : vPlain vMax a = vTurn a := by
        unfold vPlain vMax; rw [if_neg h2, if_neg h3, if_pos (by omega), turn_num ha h2 h3]
       rw [e]
       exact turn
      ·rw [decide_eq_false hn]
       have e : vPlain vMax a = a := by
        unfold vPlain vMax; rw [if_neg h2, if_neg h3]
        by_cases h0 : vRank a < -vRank a
        ·omega
        ·rw [if_neg h0, num_rank ha h2 h3]
       rw [e]
       have q : Ev (fun k => r8_one.j2 k false a.1 a.2) (a.1, a.2, true) := one_step' fun k => by simp [r8_one.j2]
       refine Ev.step (fun k => ?_) q
       simp only [r8_one.j1]
       rw [if_neg (by decide), t2, if_neg (by decide)]
    ·rw [o3]
     refine Ev.step (f := fun k => r8_one.j1 k (sb [102, 108, 111, 111, 114]) false a.1 a.2) (fun k => ?_) (Ev.step (f := fun k => r8_one.j2 k (a.1 == 1) a.1 a.2) (fun k => ?_) ?_)
     ·simp only [r8_one.j0]
      rw [if_neg h2, if_neg (op_ne h4), if_neg h3, t3, if_neg (by decide), if_neg (by decide)]
     ·simp only [r8_one.j1]
      rw [if_neg (by decide), t3, if_pos rfl, hnum]; rfl
     ·refine one_step' fun k => ?_
      simp only [r8_one.j2]
      unfold vFloor
      by_cases h1 : a.1 = 1
      ·rw [h1, if_pos (show ((1 : Int) == 1) = true from rfl), if_pos (show (1 : Int) = 1 from rfl), floor_eq]
       have hm1 := Int.tmod_lt_of_pos a.2 (show (0 : Int) < 1000 by decide)
       have hm2 := Int.lt_tmod_of_pos a.2 (show (0 : Int) < 1000 by decide)
       by_cases hn : a.2.tmod 1000 < 0
       ·rw [if_pos hn, if_pos hn, wrap_id (n := a.2.tmod 1000 + 1000) (by omega) (by omega), wrap_id (by omega) (by omega), rnum_is]; rfl
       ·rw [if_neg hn, if_neg hn, wrap_id (by omega) (by omega), rnum_is]; rfl
      ·rw [beq_false_of_ne h1, if_neg (by decide), if_neg h1]
    ·exact absurd rfl h4
theorem one_ev (op : ByteArray) {a : V} (ha : isV a) : Ev (fun k => r8_one.f k op a.1 a.2) (one3 op a) := by
 have hnum : ∀ x y : Int, r8_num.f x y = some (x == 1) := fun _ _ => rfl
 have key : ∀ l : List UInt8, (sb l).toList = l := sb_toList
 by_cases c1 : op = sb [105, 115, 95, 110, 117, 108, 108]
 ·subst c1
  refine const_ev fun k => ?_
  unfold r8_one.f
  rw [key, if_pos rfl, rtruth_is]
  have : one3 (sb [105, 115, 95, 110, 117, 108, 108]) a = ((vKind [2] a).1, (vKind [2] a).2, true) := rfl
  rw [this]; unfold vKind; simp
 by_cases c2 : op = sb [105, 115, 95, 110, 97, 110]
 ·subst c2
  refine const_ev fun k => ?_
  unfold r8_one.f
  rw [key, if_neg (by decide), if_pos rfl, rtruth_is]
  have : one3 (sb [105, 115, 95, 110, 97, 110]) a = ((vKind [3] a).1, (vKind [3] a).2, true) := rfl
  rw [this]; unfold vKind; simp
 by_cases c3 : op = sb [105, 115, 95, 105, 110, 102]
 ·subst c3
  refine const_ev fun k => ?_
  unfold r8_one.f
  rw [key, if_neg (by decide), if_neg (by decide), if_pos rfl, rtruth_is, rtruth_is]
  have : one3 (sb [105, 115, 95, 105, 110, 102]) a = ((vKind [4, 5] a).1, (vKind [4, 5] a).2, true) := rfl
  rw [this]; unfold vKind
  by_cases h4 : a.1 = 4
  ·simp [h4]
  ·have h4' : (a.1 == 4) = false := beq_false_of_ne h4
   simp [h4, h4']
 by_cases c4 : op = sb [105, 115, 95, 110, 117, 109, 98, 101, 114]
 ·subst c4
  refine const_ev fun k => ?_
  unfold r8_one.f
  rw [key, if_neg (by decide), if_neg (by decide), if_neg (by decide), if_pos rfl, hnum]
  simp only [Option.bind_some, rtruth_is]
  have : one3 (sb [105, 115, 95, 110, 117, 109, 98, 101, 114]) a = ((vKind [1] a).1, (vKind [1] a).2, true) := rfl
  rw [this]; unfold vKind; simp
 have n1 := op_ne c1
 have n2 := op_ne c2
 have n3 := op_ne c3
 have n4 := op_ne c4
 by_cases c5 : op = sb [45]
 ·refine Ev.congr (fun k => ?_) (one_j0_cases ha (.inl c5))
  unfold r8_one.f
  rw [if_neg n1, if_neg n2, if_neg n3, if_neg n4, if_pos (by rw [c5, key])]
 by_cases c6 : op = sb [97, 98, 115]
 ·refine Ev.congr (fun k => ?_) (one_j0_cases ha (.inr (.inl c6)))
  unfold r8_one.f
  rw [if_neg n1, if_neg n2, if_neg n3, if_neg n4, if_neg (op_ne c5), if_pos (by rw [c6, key])]
 by_cases c7 : op = sb [102, 108, 111, 111, 114]
 ·refine Ev.congr (fun k => ?_) (one_j0_cases ha (.inr (.inr (.inl c7))))
  unfold r8_one.f
  rw [if_neg n1, if_neg n2, if_neg n3, if_neg n4, if_neg (op_ne c5), if_neg (op_ne c6), if_pos (by rw [c7, key])]
 by_cases c8 : op = sb [33]
 ·refine Ev.congr (fun k => ?_) (one_j0_cases ha (.inr (.inr (.inr c8))))
  unfold r8_one.f
  rw [if_neg n1, if_neg n2, if_neg n3, if_neg n4, if_neg (op_ne c5), if_neg (op_ne c6), if_neg (op_ne c7), if_pos (by rw [c8, key])]
 ·have hl : tab1.lookup op = none := by
   have f : ∀ {l : List UInt8}, op ≠ sb l → (op == sb l) = false := fun h => ba_ne h
   unfold tab1
   simp only [List.lookup, f c1, f c2, f c3, f c4, f c5, f c6, f c7, f c8]
  have e : one3 op a = (0, 0, false) := by unfold one3; rw [hl]
  rw [e]
  refine const_ev fun k => ?_
  unfold r8_one.f
  rw [if_neg n1, if_neg n2, if_neg n3, if_neg n4, if_neg (op_ne c5), if_neg (op_ne c6), if_neg (op_ne c7), if_neg (op_ne c8)]
/-- An operation of two values, with whether there is one. -/
def two3 (op : ByteArray) (a b : V) : Int × Int × Bool := match tab2.lookup op with | some F => ((vTwo F a b).1, (vTwo F a b).2, true) | none => (0, 0, false)
def ops12 : List ByteArray := [sb [43], sb [45], sb [42], sb [47], sb [61, 61], sb [33, 61], sb [60], sb [60, 61], sb [62], sb [62, 61], sb [38, 38], sb [124, 124]]
theorem two_at {op : ByteArray} {F : V → V → V} (h : tab2.lookup op = some F) (a b : V) : two3 op a b = ((vTwo F a b).1, (vTwo F a b).2, true) := by unfold two3; rw [h]
section
variable {a b : V} (ha : isV a) (hb : isV b)
theorem keyl (l : List UInt8) : (sb l).toList = l := sb_toList l
theorem rdOf_at {i : Nat} (h : i < ops12.length) : rdOf ByteArray.empty ops12 (i : Int) = ops12[i] := by
 unfold rdOf
 rw [Int.toNat_natCast, List.getD_eq_getElem?_getD, List.getElem?_eq_getElem h]; rfl
theorem eq_bool {a b : V} (ha : isV a) (hb : isV b) (a2 : a.1 ≠ 2) (a3 : a.1 ≠ 3) (b2 : b.1 ≠ 2) (b3 : b.1 ≠ 3) : (vRank a == vRank b) = decide (a = b) := by
 rw [Bool.eq_iff_iff, beq_iff_eq, decide_eq_true_iff]
 exact rank_eq ha hb a2 a3 b2 b3
include ha hb
theorem two_add (a2 : a.1 ≠ 2) (b2 : b.1 ≠ 2) : Ev (fun k => r8_two.j2 k (sb [43]) (decide (a.1 = 3 ∨ b.1 = 3)) a.1 a.2 b.1 b.2) (((vNumbers vAdd) a b).1, ((vNumbers vAdd) a b).2, true) := by
 unfold vNumbers
 by_cases h : a.1 = 3 ∨ b.1 = 3
 ·rw [decide_eq_true h, if_pos h]
  refine one_step' fun k => ?_
  simp only [r8_two.j2]
  rw [keyl, if_neg (by decide), if_neg (by decide), if_neg (by decide), if_neg (by decide), if_neg (by decide), if_neg (by decide), if_neg (by decide), if_neg (by decide), if_pos trivial]; rfl
 ·rw [decide_eq_false h, if_neg h]
  have q := radd_ev ha hb
  refine Ev.step (f := fun k => (r8_add.f k a.1 a.2 b.1 b.2).bind fun bt => (some (bt.1, bt.2, true))) (fun k => ?_) (Ev.bind (f := fun k bt => (some (bt.1, bt.2, true))) q ⟨0, fun k _ => rfl⟩)
  simp only [r8_two.j2]
  rw [keyl, if_neg (by decide), if_neg (by decide), if_neg (by decide), if_neg (by decide), if_neg (by decide), if_neg (by decide), if_neg (by decide), if_neg (by decide), if_neg (by decide), if_pos rfl]
theorem two_sub (a2 : a.1 ≠ 2) (b2 : b.1 ≠ 2) : Ev (fun k => r8_two.j2 k (sb [45]) (decide (a.1 = 3 ∨ b.1 = 3)) a.1 a.2 b.1 b.2) (((vNumbers vSub) a b).1, ((vNumbers vSub) a b).2, true) := by
 unfold vNumbers
 by_cases h : a.1 = 3 ∨ b.1 = 3
 ·rw [decide_eq_true h, if_pos h]
  refine one_step' fun k => ?_
  simp only [r8_two.j2]
  rw [keyl, if_neg (by decide), if_neg (by decide), if_neg (by decide), if_neg (by decide), if_neg (by decide), if_neg (by decide), if_neg (by decide), if_neg (by decide), if_pos trivial]; rfl
 ·rw [decide_eq_false h, if_neg h]
  have q := radd_ev ha (isV_turn hb)
  have eS : vAdd a (vTurn b) = vSub a b := by unfold vSub; rw [turn_num hb b2 (fun h' => h (.inr h'))]
  rw [eS] at q
  refine Ev.step (f := fun k => (r8_add.f k a.1 a.2 (vTurn b).1 (vTurn b).2).bind fun bt => (some (bt.1, bt.2, true))) (fun k => ?_) (Ev.bind (f := fun k bt => (some (bt.1, bt.2, true))) q ⟨0, fun k _ => rfl⟩)
  simp only [r8_two.j2]
  rw [keyl, if_neg (by decide), if_neg (by decide), if_neg (by decide), if_neg (by decide), if_neg (by decide), if_neg (by decide), if_neg (by decide), if_neg (by decide), if_neg (by decide), if_neg (by decide), if_pos rfl]
  rw [rturned_is hb]; rfl
theorem two_mul (a2 : a.1 ≠ 2) (b2 : b.1 ≠ 2) : Ev (fun k => r8_two.j2 k (sb [42]) (decide (a.1 = 3 ∨ b.1 = 3)) a.1 a.2 b.1 b.2) (((vNumbers vMul) a b).1, ((vNumbers vMul) a b).2, true) := by
 unfold vNumbers
 by_cases h : a.1 = 3 ∨ b.1 = 3
 ·rw [decide_eq_true h, if_pos h]
  refine one_step' fun k => ?_
  simp only [r8_two.j2]
  rw [keyl, if_neg (by decide), if_neg (by decide), if_neg (by decide), if_neg (by decide), if_neg (by decide), if_neg (by decide), if_neg (by decide), if_neg (by decide), if_pos trivial]; rfl
 ·rw [decide_eq_false h, if_neg h]
  have q := rtimes_ev ha hb
  refine Ev.step (f := fun k => (r8_times.f k a.1 a.2 b.1 b.2).bind fun bt => (some (bt.1, bt.2, true))) (fun k => ?_) (Ev.bind (f := fun k bt => (some (bt.1, bt.2, true))) q ⟨0, fun k _ => rfl⟩)
  simp only [r8_two.j2]
  rw [keyl, if_neg (by decide), if_neg (by decide), if_neg (by decide), if_neg (by decide), if_neg (by decide), if_neg (by decide), if_neg (by decide), if_neg (by decide), if_neg (by decide), if_neg (by decide), if_neg (by decide), if_pos rfl]
theorem two_div (a2 : a.1 ≠ 2) (b2 : b.1 ≠ 2) : Ev (fun k => r8_two.j2 k (sb [47]) (decide (a.1 = 3 ∨ b.1 = 3)) a.1 a.2 b.1 b.2) (((vNumbers vDiv) a b).1, ((vNumbers vDiv) a b).2, true) := by
 unfold vNumbers
 by_cases h : a.1 = 3 ∨ b.1 = 3
 ·rw [decide_eq_true h, if_pos h]
  refine one_step' fun k => ?_
  simp only [r8_two.j2]
  rw [keyl, if_neg (by decide), if_neg (by decide), if_neg (by decide), if_neg (by decide), if_neg (by decide), if_neg (by decide), if_neg (by decide), if_neg (by decide), if_pos trivial]; rfl
 ·rw [decide_eq_false h, if_neg h]
  have q := rover_ev ha hb a2 (fun h' => h (.inl h')) b2 (fun h' => h (.inr h'))
  refine Ev.step (f := fun k => (r8_over.f k a.1 a.2 b.1 b.2).bind fun bt => (some (bt.1, bt.2, true))) (fun k => ?_) (Ev.bind (f := fun k bt => (some (bt.1, bt.2, true))) q ⟨0, fun k _ => rfl⟩)
  simp only [r8_two.j2]
  rw [keyl, if_neg (by decide), if_neg (by decide), if_neg (by decide), if_neg (by decide), if_neg (by decide), if_neg (by decide), if_neg (by decide), if_neg (by decide), if_neg (by decide), if_neg (by decide), if_neg (by decide), if_neg (by decide)]
theorem two_eq (a2 : a.1 ≠ 2) (b2 : b.1 ≠ 2) : Ev (fun k => r8_two.j2 k (sb [61, 61]) (decide (a.1 = 3 ∨ b.1 = 3)) a.1 a.2 b.1 b.2) (((vOrder false (fun m n => m == n)) a b).1, ((vOrder false (fun m n => m == n)) a b).2, true) := by
 refine one_step' fun k => ?_
 simp only [r8_two.j2]
 rw [keyl, if_neg (by decide), if_neg (by decide), if_pos rfl]
 unfold vOrder
 by_cases h : a.1 = 3 ∨ b.1 = 3
 ·rw [decide_eq_true h, if_pos rfl, if_pos h, rtruth_is]; rfl
 ·have e := eq_bool ha hb a2 (fun h' => h (.inl h')) b2 (fun h' => h (.inr h'))
  rw [decide_eq_false h, if_neg (by decide), if_neg h, rtruth_is]
  rw [pair_beq, ← e]; rfl
theorem two_ne (a2 : a.1 ≠ 2) (b2 : b.1 ≠ 2) : Ev (fun k => r8_two.j2 k (sb [33, 61]) (decide (a.1 = 3 ∨ b.1 = 3)) a.1 a.2 b.1 b.2) (((vOrder true (fun m n => m != n)) a b).1, ((vOrder true (fun m n => m != n)) a b).2, true) := by
 refine one_step' fun k => ?_
 simp only [r8_two.j2]
 rw [keyl, if_neg (by decide), if_neg (by decide), if_neg (by decide), if_pos rfl]
 unfold vOrder
 by_cases h : a.1 = 3 ∨ b.1 = 3
 ·rw [decide_eq_true h, if_pos rfl, if_pos h, rtruth_is]; rfl
 ·have e := eq_bool ha hb a2 (fun h' => h (.inl h')) b2 (fun h' => h (.inr h'))
  rw [decide_eq_false h, if_neg (by decide), if_neg h, rtruth_is]
  have e2 : (!(a.1 == b.1) || (!(a.2 == b.2))) = (vRank a != vRank b) := by
   rw [← Bool.not_and, pair_beq, ← e]; rfl
  rw [e2]; rfl
theorem two_lt (a2 : a.1 ≠ 2) (b2 : b.1 ≠ 2) : Ev (fun k => r8_two.j2 k (sb [60]) (decide (a.1 = 3 ∨ b.1 = 3)) a.1 a.2 b.1 b.2) (((vOrder false (fun m n => decide (m < n))) a b).1, ((vOrder false (fun m n => decide (m < n))) a b).2, true) := by
 unfold vOrder
 by_cases h : a.1 = 3 ∨ b.1 = 3
 ·rw [decide_eq_true h, if_pos h]
  refine one_step' fun k => ?_
  simp only [r8_two.j2]
  rw [keyl, if_neg (by decide), if_neg (by decide), if_neg (by decide), if_neg (by decide), if_pos rfl, if_pos trivial, rtruth_is]; rfl
 ·rw [decide_eq_false h, if_neg h]
  have q := rless_ev ha hb a2 (fun h' => h (.inl h')) b2 (fun h' => h (.inr h'))
  have e : (decide (vRank a < vRank b)) = decide (vRank a < vRank b) := by
   rfl
  refine Ev.step (f := fun k => (r8_Less.f k a.1 a.2 b.1 b.2).bind fun t => ((r8_Truth.f (t)).bind fun bt => (some (bt.1, bt.2, true)))) (fun k => ?_) (Ev.bind (f := fun k t => ((r8_Truth.f (t)).bind fun bt => (some (bt.1, bt.2, true)))) q ⟨0, fun k _ => ?_⟩)
  ·simp only [r8_two.j2]
   rw [keyl, if_neg (by decide), if_neg (by decide), if_neg (by decide), if_neg (by decide), if_pos rfl, if_neg (by decide)]
  ·show (r8_Truth.f (decide (vRank a < vRank b))).bind _ = _
   rw [rtruth_is, e]; rfl
theorem two_le (a2 : a.1 ≠ 2) (b2 : b.1 ≠ 2) : Ev (fun k => r8_two.j2 k (sb [60, 61]) (decide (a.1 = 3 ∨ b.1 = 3)) a.1 a.2 b.1 b.2) (((vOrder false (fun m n => decide (m ≤ n))) a b).1, ((vOrder false (fun m n => decide (m ≤ n))) a b).2, true) := by
 unfold vOrder
 by_cases h : a.1 = 3 ∨ b.1 = 3
 ·rw [decide_eq_true h, if_pos h]
  refine one_step' fun k => ?_
  simp only [r8_two.j2]
  rw [keyl, if_neg (by decide), if_neg (by decide), if_neg (by decide), if_neg (by decide), if_neg (by decide), if_pos rfl, if_pos trivial, rtruth_is]; rfl
 ·rw [decide_eq_false h, if_neg h]
  have q := rless_ev hb ha b2 (fun h' => h (.inr h')) a2 (fun h' => h (.inl h'))
  have e : (!decide (vRank b < vRank a)) = decide (vRank a ≤ vRank b) := by
   rw [← decide_not]; congr 1; rw [Int.not_lt]
  refine Ev.step (f := fun k => (r8_Less.f k b.1 b.2 a.1 a.2).bind fun t => ((r8_Truth.f (!t)).bind fun bt => (some (bt.1, bt.2, true)))) (fun k => ?_) (Ev.bind (f := fun k t => ((r8_Truth.f (!t)).bind fun bt => (some (bt.1, bt.2, true)))) q ⟨0, fun k _ => ?_⟩)
  ·simp only [r8_two.j2]
   rw [keyl, if_neg (by decide), if_neg (by decide), if_neg (by decide), if_neg (by decide), if_neg (by decide), if_pos rfl, if_neg (by decide)]
  ·show (r8_Truth.f (!decide (vRank b < vRank a))).bind _ = _
   rw [rtruth_is, e]; rfl
theorem two_gt (a2 : a.1 ≠ 2) (b2 : b.1 ≠ 2) : Ev (fun k => r8_two.j2 k (sb [62]) (decide (a.1 = 3 ∨ b.1 = 3)) a.1 a.2 b.1 b.2) (((vOrder false (fun m n => decide (m > n))) a b).1, ((vOrder false (fun m n => decide (m > n))) a b).2, true) := by
 unfold vOrder
 by_cases h : a.1 = 3 ∨ b.1 = 3
 ·rw [decide_eq_true h, if_pos h]
  refine one_step' fun k => ?_
  simp only [r8_two.j2]
  rw [keyl, if_neg (by decide), if_neg (by decide), if_neg (by decide), if_neg (by decide), if_neg (by decide), if_neg (by decide), if_pos rfl, if_pos trivial, rtruth_is]; rfl
 ·rw [decide_eq_false h, if_neg h]
  have q := rless_ev hb ha b2 (fun h' => h (.inr h')) a2 (fun h' => h (.inl h'))
  have e : (decide (vRank b < vRank a)) = decide (vRank a > vRank b) := by
   rfl
  refine Ev.step (f := fun k => (r8_Less.f k b.1 b.2 a.1 a.2).bind fun t => ((r8_Truth.f (t)).bind fun bt => (some (bt.1, bt.2, true)))) (fun k => ?_) (Ev.bind (f := fun k t => ((r8_Truth.f (t)).bind fun bt => (some (bt.1, bt.2, true)))) q ⟨0, fun k _ => ?_⟩)
  ·simp only [r8_two.j2]
   rw [keyl, if_neg (by decide), if_neg (by decide), if_neg (by decide), if_neg (by decide), if_neg (by decide), if_neg (by decide), if_pos rfl, if_neg (by decide)]
  ·show (r8_Truth.f (decide (vRank b < vRank a))).bind _ = _
   rw [rtruth_is, e]; rfl
theorem two_ge (a2 : a.1 ≠ 2) (b2 : b.1 ≠ 2) : Ev (fun k => r8_two.j2 k (sb [62, 61]) (decide (a.1 = 3 ∨ b.1 = 3)) a.1 a.2 b.1 b.2) (((vOrder false (fun m n => decide (m ≥ n))) a b).1, ((vOrder false (fun m n => decide (m ≥ n))) a b).2, true) := by
 unfold vOrder
 by_cases h : a.1 = 3 ∨ b.1 = 3
 ·rw [decide_eq_true h, if_pos h]
  refine one_step' fun k => ?_
  simp only [r8_two.j2]
  rw [keyl, if_neg (by decide), if_neg (by decide), if_neg (by decide), if_neg (by decide), if_neg (by decide), if_neg (by decide), if_neg (by decide), if_pos rfl, if_pos trivial, rtruth_is]; rfl
 ·rw [decide_eq_false h, if_neg h]
  have q := rless_ev ha hb a2 (fun h' => h (.inl h')) b2 (fun h' => h (.inr h'))
  have e : (!decide (vRank a < vRank b)) = decide (vRank a ≥ vRank b) := by
   rw [← decide_not]; congr 1; rw [Int.not_lt]
  refine Ev.step (f := fun k => (r8_Less.f k a.1 a.2 b.1 b.2).bind fun t => ((r8_Truth.f (!t)).bind fun bt => (some (bt.1, bt.2, true)))) (fun k => ?_) (Ev.bind (f := fun k t => ((r8_Truth.f (!t)).bind fun bt => (some (bt.1, bt.2, true)))) q ⟨0, fun k _ => ?_⟩)
  ·simp only [r8_two.j2]
   rw [keyl, if_neg (by decide), if_neg (by decide), if_neg (by decide), if_neg (by decide), if_neg (by decide), if_neg (by decide), if_neg (by decide), if_pos rfl, if_neg (by decide)]
  ·show (r8_Truth.f (!decide (vRank a < vRank b))).bind _ = _
   rw [rtruth_is, e]; rfl
theorem two_and (a2 : a.1 ≠ 2) (b2 : b.1 ≠ 2) : Ev (fun k => r8_two.j2 k (sb [38, 38]) (decide (a.1 = 3 ∨ b.1 = 3)) a.1 a.2 b.1 b.2) ((vAnd a b).1, (vAnd a b).2, true) := by
 refine one_step' fun k => ?_
 simp only [r8_two.j2]
 rw [keyl, if_pos rfl, rtrue_is ha]
 simp only [Option.bind_some]
 unfold vAnd
 by_cases h : vTrue a = true
 ·rw [if_pos h, rtrue_is hb]; simp only [Option.bind_some, rtruth_is]; rw [h]; rfl
 ·rw [if_neg h, rtruth_is, Bool.eq_false_iff.2 h]; rfl
theorem two_or (a2 : a.1 ≠ 2) (b2 : b.1 ≠ 2) : Ev (fun k => r8_two.j2 k (sb [124, 124]) (decide (a.1 = 3 ∨ b.1 = 3)) a.1 a.2 b.1 b.2) ((vOr a b).1, (vOr a b).2, true) := by
 refine one_step' fun k => ?_
 simp only [r8_two.j2]
 rw [keyl, if_neg (by decide), if_pos rfl, rtrue_is ha]
 simp only [Option.bind_some]
 unfold vOr
 by_cases h : vTrue a = true
 ·rw [if_pos h, rtruth_is, h]; rfl
 ·rw [if_neg h, rtrue_is hb]; simp only [Option.bind_some, rtruth_is]; rw [Bool.eq_false_iff.2 h]; rfl
omit ha hb in
theorem two_j1 (op : ByteArray) {F : V → V → V} (ht : tab2.lookup op = some F) (h : a.1 ≠ 2 → b.1 ≠ 2 → Ev (fun k => r8_two.j2 k op (decide (a.1 = 3 ∨ b.1 = 3)) a.1 a.2 b.1 b.2) ((F a b).1, (F a b).2, true)) : Ev (fun k => r8_two.j1 k op (decide (a.1 = 2 ∨ b.1 = 2)) a.1 a.2 b.1 b.2) (two3 op a b) := by
 rw [two_at ht]
 unfold vTwo
 by_cases hn : a.1 = 2 ∨ b.1 = 2
 ·rw [decide_eq_true hn, if_pos hn]
  exact one_step' fun k => by simp only [r8_two.j1, if_true]; rfl
 ·rw [decide_eq_false hn, if_neg hn]
  refine Ev.step (fun k => ?_) (h (fun h' => hn (.inl h')) (fun h' => hn (.inr h')))
  simp only [r8_two.j1]
  rw [if_neg (by decide)]
  by_cases h3 : a.1 = 3
  ·rw [if_pos h3, decide_eq_true (show a.1 = 3 ∨ b.1 = 3 from .inl h3)]
  ·rw [if_neg h3]
   by_cases g3 : b.1 = 3
   ·rw [g3, decide_eq_true (show a.1 = 3 ∨ (3 : Int) = 3 from .inr rfl)]; rfl
   ·rw [beq_false_of_ne g3, decide_eq_false (fun h' => h'.elim h3 g3)]
theorem two_known (op : ByteArray) (hk : op ∈ ops12) : Ev (fun k => r8_two.j1 k op (decide (a.1 = 2 ∨ b.1 = 2)) a.1 a.2 b.1 b.2) (two3 op a b) := by
 simp only [ops12, List.mem_cons, List.mem_nil_iff, or_false] at hk
 rcases hk with rfl | rfl | rfl | rfl | rfl | rfl | rfl | rfl | rfl | rfl | rfl | rfl
 ·exact two_j1 _ op2_add (two_add ha hb)
 ·exact two_j1 _ op2_sub (two_sub ha hb)
 ·exact two_j1 _ op2_mul (two_mul ha hb)
 ·exact two_j1 _ op2_div (two_div ha hb)
 ·exact two_j1 _ op2_eq (two_eq ha hb)
 ·exact two_j1 _ op2_ne (two_ne ha hb)
 ·exact two_j1 _ op2_lt (two_lt ha hb)
 ·exact two_j1 _ op2_le (two_le ha hb)
 ·exact two_j1 _ op2_gt (two_gt ha hb)
 ·exact two_j1 _ op2_ge (two_ge ha hb)
 ·exact two_j1 _ op2_and (two_and ha hb)
 ·exact two_j1 _ op2_or (two_or ha hb)
omit ha hb in
theorem two_unknown (op : ByteArray) (hk : op ∉ ops12) : tab2.lookup op = none := by
 simp only [ops12, List.mem_cons, List.mem_nil_iff, or_false, not_or] at hk
 obtain ⟨c0, c1, c2, c3, c4, c5, c6, c7, c8, c9, c10, c11⟩ := hk
 unfold tab2
 simp only [List.lookup, ba_ne c0, ba_ne c1, ba_ne c2, ba_ne c3, ba_ne c4, ba_ne c5, ba_ne c6, ba_ne c7, ba_ne c8, ba_ne c9, ba_ne c10, ba_ne c11]
theorem two_loop (op : ByteArray) : ∀ (d i : Nat) (kn : Bool), i + d = 12 → (kn = true → op ∈ ops12) → (kn = false → ∀ x ∈ ops12.take i, x ≠ op) → Ev (fun k => r8_two.l0 k op kn ops12 (i : Int) a.1 a.2 b.1 b.2) (two3 op a b)
 | 0, i, kn, hd, hk, hn => by
  have hi : i = 12 := by omega
  subst hi
  cases kn with
  | true =>
   refine Ev.step (fun k => ?_) (two_known ha hb op (hk rfl))
   simp only [r8_two.l0]
   rw [if_neg (by decide), if_pos trivial]
   by_cases h2 : a.1 = 2
   ·rw [if_pos h2, decide_eq_true (show a.1 = 2 ∨ b.1 = 2 from .inl h2)]
   ·rw [if_neg h2]
    by_cases g2 : b.1 = 2
    ·rw [g2, decide_eq_true (show a.1 = 2 ∨ (2 : Int) = 2 from .inr rfl)]; rfl
    ·rw [beq_false_of_ne g2, decide_eq_false (fun h' => h'.elim h2 g2)]
  | false =>
   have hne : op ∉ ops12 := fun hm => hn rfl op (by rw [List.take_of_length_le (by decide)]; exact hm) rfl
   have e : two3 op a b = (0, 0, false) := by unfold two3; rw [two_unknown op hne]
   rw [e]
   refine one_step' fun k => ?_
   simp only [r8_two.l0]
   rw [if_neg (by decide), if_neg (by decide)]
 | d + 1, i, kn, hd, hk, hn => by
  have hl : ops12.length = 12 := rfl
  have hi : i < ops12.length := by omega
  have e1 : wrap64 ((i : Int) + 1) = ((i + 1 : Nat) : Int) := by rw [wrap_id (by omega) (by omega)]; omega
  cases kn with
  | true =>
   refine Ev.step (fun k => ?_) (two_loop op d (i + 1) true (by omega) hk (fun h => by cases h))
   simp only [r8_two.l0, if_true]
   rw [if_pos (by omega), e1]
  | false =>
   by_cases he : ops12[i] = op
   ·refine Ev.step (fun k => ?_) (two_loop op d (i + 1) true (by omega) (fun _ => by rw [← he]; exact List.getElem_mem hi) (fun h => by cases h))
    simp only [r8_two.l0]
    rw [if_pos (by omega), if_neg (by decide), if_pos (by omega), rdOf_at hi, e1, he, beq_self_eq_true]
   ·refine Ev.step (fun k => ?_) (two_loop op d (i + 1) false (by omega) (fun h => by cases h) (fun _ x hx => ?_))
    ·simp only [r8_two.l0]
     rw [if_pos (by omega), if_neg (by decide), if_pos (by omega), rdOf_at hi, e1, beq_false_of_ne (fun h => he (sb_inj.1 h))]
    ·rw [List.take_succ_eq_append_getElem hi] at hx
     rcases List.mem_append.1 hx with hx | hx
     ·exact hn rfl x hx
     ·obtain rfl := List.mem_singleton.1 hx
      exact he
theorem two_ev (op : ByteArray) : Ev (fun k => r8_two.f k op a.1 a.2 b.1 b.2) (two3 op a b) :=
 two_loop ha hb op 12 0 false (by omega) (fun h => by cases h) (fun _ x hx => by simp at hx)
end
/-- The document's Do of a list of values. -/
theorem rdo_ev (op : ByteArray) (l : List S25) (hm : l.length ≤ 4611686018427387904) : Ev (fun k => r8_Do.f k op l) ((vDo op (l.map sv)).1.1, (vDo op (l.map sv)).1.2, (vDo op (l.map sv)).2) := by
 unfold r8_Do.f
 refine Ev.bind (f := fun k t388 => (if t388 = 0 then (if (l.length : Int) = 1 then (if 0 < (l.length : Int) then ((r8_one.f k op ((rd_T25 l 0).f0) ((rd_T25 l 0).f1)).bind fun bt391 => (r8_Do.j0 k op l bt391.2.2 bt391.1 bt391.2.1)) else (none)) else (r8_Do.j0 k op l false 0 0)) else (some (0, 0, 80)))) (check_ev l hm) ?_
 by_cases hb : l.any badV = true
 ·have e : vDo op (l.map sv) = ((0, 0), 80) := by unfold vDo; rw [any_sv, if_pos hb]
  rw [e, if_pos hb]
  exact const_ev fun k => by rw [if_neg (by decide)]
 ·rw [if_neg hb]
  refine Ev.congr (f := fun k => (if (l.length : Int) = 1 then (if 0 < (l.length : Int) then ((r8_one.f k op ((rd_T25 l 0).f0) ((rd_T25 l 0).f1)).bind fun bt391 => (r8_Do.j0 k op l bt391.2.2 bt391.1 bt391.2.1)) else (none)) else (r8_Do.j0 k op l false 0 0))) (fun k => by rw [if_pos rfl]) ?_
  have other : l.length ≠ 2 → Ev (fun k => r8_Do.j0 k op l false 0 0) (0, 0, 2) := fun h2 => one_step' fun k => by
   simp only [r8_Do.j0]
   rw [if_neg (by omega), if_neg (by decide)]
  match l, hb, other with
  | [], hb, other =>
   have e : vDo op (([] : List S25).map sv) = ((0, 0), 2) := rfl
   rw [e]
   refine Ev.congr (fun k => ?_) (other (by decide))
   rw [if_neg (by decide)]
  | [x], hb, other =>
   have hv : isV (sv x) := by simpa [badV] using hb
   refine Ev.congr (f := fun k => ((r8_one.f k op (sv x).1 (sv x).2).bind fun bt391 => (r8_Do.j0 k op [x] bt391.2.2 bt391.1 bt391.2.1))) (fun k => by rw [if_pos (by simp), if_pos (by simp)]; rfl) ?_
   refine Ev.bind (f := fun k bt391 => (r8_Do.j0 k op [x] bt391.2.2 bt391.1 bt391.2.1)) (one_ev op hv) ?_
   refine one_step' fun k => ?_
   simp only [r8_Do.j0]
   rw [if_neg (by simp)]
   unfold one3 vDo
   rw [any_sv, if_neg hb]
   simp only [List.map]
   cases ht : tab1.lookup op with
   | none => rfl
   | some F => rfl
  | [x, y], hb, other =>
   have hv : isV (sv x) ∧ isV (sv y) := by simpa [badV] using hb
   refine Ev.congr (f := fun k => r8_Do.j0 k op [x, y] false 0 0) (fun k => by rw [if_neg (by simp)]) ?_
   refine Ev.step (f := fun k => ((r8_two.f k op (sv x).1 (sv x).2 (sv y).1 (sv y).2).bind fun bt396 => (if bt396.2.2 = true then (some (bt396.1, bt396.2.1, 0)) else (some (0, 0, 2))))) (fun k => ?_) ?_
   ·simp only [r8_Do.j0]
    rw [if_pos (by simp), if_pos (by simp), if_pos (by simp)]; rfl
   ·refine Ev.bind (f := fun k bt396 => (if bt396.2.2 = true then (some ((bt396.1, bt396.2.1, 0) : Int × Int × Int)) else (some (0, 0, 2)))) (two_ev hv.1 hv.2 op) ⟨0, fun k _ => ?_⟩
    unfold two3 vDo
    rw [any_sv, if_neg hb]
    simp only [List.map]
    cases ht : tab2.lookup op with
    | none => rfl
    | some F =>
     unfold vTwo
     by_cases hn : (sv x).1 = 2 ∨ (sv y).1 = 2
     ·simp [hn]
     ·simp [hn]
  | x :: y :: z :: l, hb, other =>
   have e : vDo op ((x :: y :: z :: l).map sv) = ((0, 0), 2) := by unfold vDo; rw [any_sv, if_neg hb]; rfl
   rw [e]
   refine Ev.congr (fun k => ?_) (other (by simp))
   rw [if_neg (by simp; omega)]
/-- A scalar as a frame. -/
theorem scal_calls (v : V) (w : World) : Calls Tryz.prog 20 #[.agg #[.int .i64 v.1, .int .i64 v.2]] w fun e w' => ∃ (A' : Option Addr) (c' : Nat), e = .returned (.slice A' 1 c') ∧ Kd.C k37 w' A' 1 [scal v] ∧ 1 ≤ c' ∧ Below w.heap.size w w' := by
 refine (s_Scalar.calls v.1 v.2 [scal v] w rfl).mono ?_
 rintro e w' ⟨x, rfl, hs, hb⟩
 obtain ⟨A', c', rfl, h1, h2⟩ := Kd.N_reads (Kd.S_N hs)
 exact ⟨A', c', rfl, h2, h1, hb⟩
/-- series.Join, of rows, told so. -/
theorem join_calls' (op : ByteArray) (A B : Option Addr) (c d n m : Nat) (a b : List Ser) (ha : SersOk a) (hb : SersOk b) (w : World) (hA : Kd.C k37 w A a.length a) (hB : Kd.C k37 w B b.length b) (hn : n = a.length) (hm : m = b.length) {s : List Ser} {e0 : Int} (hs : vJoin op a b = (s, e0)) :
  Calls Tryz.prog 19 #[.string op, .slice A n c, .slice B m d] w fun e w' => ∃ (A' : Option Addr) (c' : Nat), e = .returned (.tuple #[.slice A' s.length c', .int .i64 e0]) ∧ Kd.C k37 w' A' s.length s ∧ s.length ≤ c' ∧ Below w.heap.size w w' := by
 subst hn; subst hm
 have h := sjoin_calls op A B c d a b ha hb w hA hB
 rw [hs] at h
 refine h.mono ?_
 rintro e w' ⟨v, rfl, hN, hb⟩
 obtain ⟨A', c', rfl, h1, h2⟩ := Kd.N_reads hN
 exact ⟨A', c', rfl, h2, h1, hb⟩
theorem join_both {op : ByteArray} {l s : List Ser} {e0 : Int} (hs : vSort l = (s, e0)) {v : V} (hv : isV v) :
  ∃ ra rb ea, vJoin op l [scal v] = (ra, ea) ∧ vJoin op [scal v] l = (rb, ea) ∧ (ea ≠ 0 → ra = [] ∧ rb = []) ∧ (ea = 0 → e0 = 0 ∧ (vDo op [(1, 0), (1, 0)]).2 = 0 ∧ ra = s.map (rVal op v) ∧ rb = s.map (lVal op v)) := by
 rw [join_r hs hv, join_l hs hv]
 by_cases h0 : e0 = 0
 ·rw [if_pos h0, if_pos h0]
  by_cases hk : (vDo op [(1, 0), (1, 0)]).2 = 0
  ·rw [if_pos hk, if_pos hk]
   exact ⟨_, _, _, rfl, rfl, fun h => absurd rfl h, fun _ => ⟨h0, hk, rfl, rfl⟩⟩
  ·rw [if_neg hk, if_neg hk]
   exact ⟨_, _, _, rfl, rfl, fun _ => ⟨rfl, rfl⟩, fun h => absurd h (by decide)⟩
 ·rw [if_neg h0, if_neg h0]
  exact ⟨_, _, _, rfl, rfl, fun _ => ⟨rfl, rfl⟩, fun h => absurd h h0⟩
theorem scal_ok (v : V) : SersOk [scal v] := ⟨by rw [List.length_singleton]; omega, fun x hx => by rw [List.mem_singleton.1 hx]; exact ⟨by show (0 : Nat) < _; omega, by show (0 : Nat) < _; omega, fun x hx => by cases hx⟩⟩
/-- R.Do at two values that lie in a row made just now. -/
theorem rdo2 (op : ByteArray) (x1 x2 y1 y2 : Int) {r1 r2 r3 : Int} (h : vDo op [(x1, x2), (y1, y2)] = ((r1, r2), r3)) (n : Nat) (W : World) (hb : W.heap[n]? = some (.cells #[.int .i64 x1, .int .i64 x2, .int .i64 y1, .int .i64 y2] 25 (0, 0))) :
  Calls Tryz.prog 17 #[.string op, .slice (some ⟨n, 0, none⟩) 2 2] W fun e w' => e = .returned (.tuple #[.agg #[.int .i64 r1, .int .i64 r2], .int .i64 r3]) ∧ Below W.heap.size W w' := by
 have hr : Kd.C k25 W (some ⟨n, 0, none⟩) 2 [⟨x1, x2⟩, ⟨y1, y2⟩] := row_of k25 [(⟨x1, x2⟩, [.int .i64 x1, .int .i64 x2]), (⟨y1, y2⟩, [.int .i64 y1, .int .i64 y2])] (fun q hq => by
  simp only [List.mem_cons, List.not_mem_nil, or_false] at hq
  rcases hq with rfl | rfl <;> exact k25_mk _ _) (by simp) hb
 obtain ⟨k, hk⟩ := (rdo_ev op [⟨x1, x2⟩, ⟨y1, y2⟩] (by simp)).rounds
 have e : vDo op ([(⟨x1, x2⟩ : S25), ⟨y1, y2⟩].map sv) = ((r1, r2), r3) := h
 rw [e] at hk
 exact r8_Do.calls k op _ 2 [⟨x1, x2⟩, ⟨y1, y2⟩] r1 r2 r3 W hr (Nat.le_refl 2) hk
theorem blk_at {W : World} {o : Obj} {n : Nat} (h : W.heap.size = n) : (W.alloc o).heap[n]? = some o := h ▸ blk_new W o
theorem kk {w0 W w3 : World} (h : Below w0.heap.size w0 W) (hb : Below W.heap.size W w3) : Below w0.heap.size w0 w3 := h.trans (hb.mono h.size)
/-- The cells that are read, whichever order. -/
def CellS (vb : Nat) (ad : Addr) (v1 v2 s0 s1 : Int) (w' : World) : Prop := w'.cell? ⟨vb, 0, none⟩ = some (.int .i64 v1) ∧ w'.cell? ⟨vb, 1, none⟩ = some (.int .i64 v2) ∧ w'.cell? ⟨ad.block, ad.off + 1, none⟩ = some (.int .i64 s0) ∧ w'.cell? ⟨ad.block, ad.off + 2, none⟩ = some (.int .i64 s1)
theorem CellS.below {vb : Nat} {ad : Addr} {v1 v2 s0 s1 : Int} {w1 w2 : World} (h : CellS vb ad v1 v2 s0 s1 w1) (hb : Below w1.heap.size w1 w2) : CellS vb ad v1 v2 s0 s1 w2 := ⟨pw_cell_below hb h.1, pw_cell_below hb h.2.1, pw_cell_below hb h.2.2.1, pw_cell_below hb h.2.2.2⟩
theorem CellS.drew {vb : Nat} {ad : Addr} {v1 v2 s0 s1 : Int} {w1 : World} (h : CellS vb ad v1 v2 s0 s1 w1) : CellS vb ad v1 v2 s0 s1 w1.drew := h.below (Below.refl _ _).drew
theorem CellS.alloc {vb : Nat} {ad : Addr} {v1 v2 s0 s1 : Int} {w1 : World} (h : CellS vb ad v1 v2 s0 s1 w1) (o : Obj) : CellS vb ad v1 v2 s0 s1 (w1.alloc o) := h.below (below1 w1 o)
theorem CellS.set {vb : Nat} {ad : Addr} {v1 v2 s0 s1 : Int} {w1 : World} (h : CellS vb ad v1 v2 s0 s1 w1) {N j : Nat} {u : Value} (n1 : vb ≠ N) (n2 : ad.block ≠ N) : CellS vb ad v1 v2 s0 s1 (w1.setCell ⟨N, j, none⟩ u) :=
 ⟨(cell_far (p := ⟨N, j, none⟩) (a := ⟨vb, 0, none⟩) n1 u).trans h.1, (cell_far (p := ⟨N, j, none⟩) (a := ⟨vb, 1, none⟩) n1 u).trans h.2.1, (cell_far (p := ⟨N, j, none⟩) (a := ⟨ad.block, ad.off + 1, none⟩) n2 u).trans h.2.2.1, (cell_far (p := ⟨N, j, none⟩) (a := ⟨ad.block, ad.off + 2, none⟩) n2 u).trans h.2.2.2⟩
/-- What stands in the loop. -/
def ScS (w : World) (Aa Ab As : Option Addr) (vb : Nat) (v1 v2 : Int) (s ra rb : List Ser) (w1 : World) : Prop := Below w.heap.size w w1 ∧ w1.heap[vb]? = some (.cells #[.int .i64 v1, .int .i64 v2] 25 (0, 0)) ∧ Kd.C k37 w1 Aa s.length ra ∧ Kd.C k37 w1 Ab s.length rb ∧ Kd.C k37 w1 As s.length s
theorem ScS.below {w : World} {Aa Ab As : Option Addr} {vb : Nat} {v1 v2 : Int} {s ra rb : List Ser} {w1 w2 : World} (h : ScS w Aa Ab As vb v1 v2 s ra rb w1) (hb : Below w1.heap.size w1 w2) : ScS w Aa Ab As vb v1 v2 s ra rb w2 :=
 ⟨h.1.trans (hb.mono h.1.size), blk_below h.2.1 hb, Kd.C_below h.2.2.1 hb, Kd.C_below h.2.2.2.1 hb, Kd.C_below h.2.2.2.2 hb⟩
theorem mid_one {α : Type} (xs : List α) (i : Nat) (hi : i < xs.length) : (xs.take (i + 1)).drop i = [xs[i]] := by
 rw [List.take_add_one, List.getElem?_eq_getElem hi, List.drop_append_of_le_length (by rw [List.length_take]; omega), List.drop_of_length_le (by rw [List.length_take]; omega)]
 rfl
/-- One of a row, as a row. -/
theorem one_C {w : World} {A : Option Addr} {c : Nat} {xs : List Ser} (h : Kd.C k37 w A xs.length xs) (i : Nat) (hi : i < xs.length) (hc : xs.length ≤ c) : Kd.C k37 w (if c = i then A else A.map (·.add (i * 3))) 1 [xs[i]] := by
 have e := Kd.C_mid h (Nat.le_succ i) hi hc
 rw [mid_one xs i hi] at e
 exact e
/-- 'Same', of one and of a row laid just now. -/
theorem row_same (A : Option Addr) (c : Nat) (z : Ser) (A6 : Option Addr) (c6 m : Nat) (W : World) (hC : Kd.C k37 W A 1 [z]) (h1 : 1 ≤ c) (hL : Kd.C k62 W A6 z.f0.length z.f0) (h6 : z.f0.length ≤ c6) (hz : SersOk [z]) (hm : W.heap[m]? = some (.cells #[.slice A6 z.f0.length c6, .int .i64 z.f1.f0, .int .i64 z.f1.f1] 37 (0, 0))) :
  Calls Tryz.prog 16 #[.slice A 1 c, .slice (some ⟨m, 0, none⟩) 1 1] W fun e w' => e = .returned (.bool true) ∧ Below W.heap.size W w' := by
 have hR := row_of k37 (g := m) [(z, [.slice A6 z.f0.length c6, .int .i64 z.f1.f0, .int .i64 z.f1.f1])] (fun q hq => by
  rw [List.mem_singleton.1 hq]
  exact k37_mk _ z h6 hL) (by simp) hm
 exact same_calls A _ c 1 [z] hz _ hC h1 hR (Nat.le_refl 1)
/-- What stands while the two are held against each other. -/
def ScT (w : World) (Aa Ab As : Option Addr) (vb : Nat) (v1 v2 : Int) (s ra rb : List Ser) (ad : Addr) (A6 : Option Addr) (c6 : Nat) (xl : List Lab) (N M : Nat) (x1 x2 y1 y2 : Int) (Sa Sb : Option Addr) (w' : World) : Prop := w'.cell? ad = some (.slice A6 xl.length c6) ∧ w'.cell? ⟨N, 0, none⟩ = some (.int .i64 x1) ∧ w'.cell? ⟨N, 1, none⟩ = some (.int .i64 x2) ∧ w'.cell? ⟨M, 0, none⟩ = some (.int .i64 y1) ∧ w'.cell? ⟨M, 1, none⟩ = some (.int .i64 y2) ∧ Sd (Kd.C k62 w' A6 xl.length xl ∧ Kd.C k37 w' Sa 1 [⟨xl, ⟨x1, x2⟩⟩] ∧ Kd.C k37 w' Sb 1 [⟨xl, ⟨y1, y2⟩⟩]) ∧ Sd (ScS w Aa Ab As vb v1 v2 s ra rb w')
section
variable {w : World} {Aa Ab As : Option Addr} {vb : Nat} {v1 v2 : Int} {s ra rb : List Ser} {ad : Addr} {A6 : Option Addr} {c6 : Nat} {xl : List Lab} {N M : Nat} {x1 x2 y1 y2 : Int} {Sa Sb : Option Addr} {W W2 : World}
theorem ScT.below (h : ScT w Aa Ab As vb v1 v2 s ra rb ad A6 c6 xl N M x1 x2 y1 y2 Sa Sb W) (hb : Below W.heap.size W W2) : ScT w Aa Ab As vb v1 v2 s ra rb ad A6 c6 xl N M x1 x2 y1 y2 Sa Sb W2 := by
 obtain ⟨h0, h1, h2, h3, h4, h5, h6⟩ := h
 exact ⟨pw_cell_below hb h0, pw_cell_below hb h1, pw_cell_below hb h2, pw_cell_below hb h3, pw_cell_below hb h4, ⟨⟨Kd.C_below h5.out.1 hb, Kd.C_below h5.out.2.1 hb, Kd.C_below h5.out.2.2 hb⟩⟩, ⟨h6.out.below hb⟩⟩
theorem ScT.drew (h : ScT w Aa Ab As vb v1 v2 s ra rb ad A6 c6 xl N M x1 x2 y1 y2 Sa Sb W) : ScT w Aa Ab As vb v1 v2 s ra rb ad A6 c6 xl N M x1 x2 y1 y2 Sa Sb W.drew := h.below (Below.refl _ _).drew
theorem ScT.alloc (h : ScT w Aa Ab As vb v1 v2 s ra rb ad A6 c6 xl N M x1 x2 y1 y2 Sa Sb W) (o : Obj) : ScT w Aa Ab As vb v1 v2 s ra rb ad A6 c6 xl N M x1 x2 y1 y2 Sa Sb (W.alloc o) := h.below (below1 W o)
theorem ScT.sameA (h : ScT w Aa Ab As vb v1 v2 s ra rb ad A6 c6 xl N M x1 x2 y1 y2 Sa Sb W) {n c m : Nat} (hm : W.heap[m]? = some (.cells #[.slice A6 xl.length c6, .int .i64 x1, .int .i64 x2] 37 (0, 0))) (hn : n = 1) (h1 : 1 ≤ c) (h6 : xl.length ≤ c6) (hz : ∀ v : S25, SersOk [⟨xl, v⟩]) : Calls Tryz.prog 16 #[.slice Sa n c, .slice (some ⟨m, 0, none⟩) 1 1] W fun e w' => e = .returned (.bool true) ∧ ScT w Aa Ab As vb v1 v2 s ra rb ad A6 c6 xl N M x1 x2 y1 y2 Sa Sb w' := by
 subst hn
 exact (row_same Sa c ⟨xl, ⟨x1, x2⟩⟩ A6 c6 m W h.2.2.2.2.2.1.out.2.1 h1 h.2.2.2.2.2.1.out.1 h6 (hz _) hm).mono fun e w' ⟨he, hb⟩ => ⟨he, h.below hb⟩
theorem ScT.sameB (h : ScT w Aa Ab As vb v1 v2 s ra rb ad A6 c6 xl N M x1 x2 y1 y2 Sa Sb W) {n c m : Nat} (hm : W.heap[m]? = some (.cells #[.slice A6 xl.length c6, .int .i64 y1, .int .i64 y2] 37 (0, 0))) (hn : n = 1) (h1 : 1 ≤ c) (h6 : xl.length ≤ c6) (hz : ∀ v : S25, SersOk [⟨xl, v⟩]) : Calls Tryz.prog 16 #[.slice Sb n c, .slice (some ⟨m, 0, none⟩) 1 1] W fun e w' => e = .returned (.bool true) ∧ ScT w Aa Ab As vb v1 v2 s ra rb ad A6 c6 xl N M x1 x2 y1 y2 Sa Sb w' := by
 subst hn
 exact (row_same Sb c ⟨xl, ⟨y1, y2⟩⟩ A6 c6 m W h.2.2.2.2.2.1.out.2.2 h1 h.2.2.2.2.2.1.out.1 h6 (hz _) hm).mono fun e w' ⟨he, hb⟩ => ⟨he, h.below hb⟩
end
theorem sscalar_calls (op : ByteArray) (A : Option Addr) (c : Nat) (l : List Ser) (v1 v2 : Int) (hl : SersOk l) (w : World) (hr : Kd.C k37 w A l.length l) (hc : l.length ≤ c) :
  Calls Tryz.prog 6 #[.string op, .slice A l.length c, .agg #[.int .i64 v1, .int .i64 v2]] w fun e w' => e = .returned (.bool true) ∧ Below w.heap.size w w' := by
 have mixed : Tryz.prog.follows .mixedOrders = true := by kernel_rfl
 obtain ⟨sm, hsm, him⟩ := small_ev l hl
 obtain ⟨ks, hks⟩ := hsm.rounds
 have hba := below1 w (.cells #[.int .i64 v1, .int .i64 v2] 25)
 have HSM := Sd.mk (l10_small.calls ks A c l sm (w.alloc (.cells #[.int .i64 v1, .int .i64 v2] 25)) (Kd.C_below hr hba) hc hks)
 have HL := Sd.mk hr
 have HB0 := Sd.mk hba
 have HV0 := Sd.mk (blk_new w (.cells #[.int .i64 v1, .int .i64 v2] 25))
 obtain ⟨vb, hvb⟩ : ∃ L, w.heap.size = L := ⟨_, rfl⟩
 rw [hvb] at HV0
 clear hsm hks hr hba
 have HIs := Sd.mk (fun w1 => r8_Is.calls v1 v2 _ w1 (ris_is v1 v2))
 cases sm with
 | false =>
  clear him
  go_enter Tryz.func6, Tryz.ntmps6
  go_wp2_with fail
  refine HSM.out.mono ?_
  rintro e w1 ⟨rfl, hb1⟩
  obtain ⟨n1, rfl⟩ := hb1
  have HB1 := Sd.mk (pbd HB0.out n1)
  go_wp2_with fail
  refine (l10_live.calls true _ rfl).mono ?_
  rintro e w2 ⟨rfl, hb2⟩
  have HB := Sd.mk (HB1.out.trans (hb2.mono HB1.out.size))
  clear hb2
  go_wp2
  go_ret
  exact ⟨rfl, by rw [hvb] at *; exact HB.out⟩
 | true =>
  clear him
  by_cases hop : 1000 < op.size
  ·have d1 : decide (1000 < op.size) = true := decide_eq_true hop
   have d2 : decide (1000 < (op.size : Int)) = true := decide_eq_true (by omega)
   clear hop
   go_enter Tryz.func6, Tryz.ntmps6
   go_wp2_with fail
   refine HSM.out.mono ?_
   rintro e w1 ⟨rfl, hb1⟩
   obtain ⟨n1, rfl⟩ := hb1
   have HB1 := Sd.mk (pbd HB0.out n1)
   go_wp2_with fail
   refine (l10_live.calls true _ rfl).mono ?_
   rintro e w2 ⟨rfl, hb2⟩
   have HB := Sd.mk (HB1.out.trans (hb2.mono HB1.out.size))
   clear hb2
   go_wp2
   go_ret
   exact ⟨rfl, by rw [hvb] at *; exact HB.out⟩
  ·have d1 : decide (1000 < op.size) = false := decide_eq_false hop
   have d2 : decide (1000 < (op.size : Int)) = false := decide_eq_false (by omega)
   clear hop
   go_enter Tryz.func6, Tryz.ntmps6
   go_wp2_with fail
   refine HSM.out.mono ?_
   rintro e w1 ⟨rfl, hb1⟩
   obtain ⟨n1, rfl⟩ := hb1
   have HB1 := Sd.mk (pbd HB0.out n1)
   have HV1 := Sd.mk (blk_drewN HV0.out n1)
   have z0 := blk_cell HV1.out 0
   have z1 := blk_cell HV1.out 1
   clear HB0 HV0
   go_wp2_with fail
   refine (HIs.out _).mono ?_
   rintro e w2 ⟨rfl, hb2⟩
   have HB2 := Sd.mk (HB1.out.trans (hb2.mono HB1.out.size))
   have HV2 := Sd.mk (blk_below HV1.out hb2)
   clear hb2 HB1 HV1 z0 z1
   by_cases hv : isV (v1, v2)
   ·have dv : decide (isV (v1, v2)) = true := decide_eq_true hv
    rw [dv]
    rcases hvs : vSort l with ⟨s, e0⟩
    obtain ⟨ra, rb, ea, hja, hjb, hj0, hj1⟩ := join_both (op := op) hvs (v := (v1, v2)) hv
    have HJA := Sd.mk hja
    have HJB := Sd.mk hjb
    have HJ0 := Sd.mk hj0
    have HJ1 := Sd.mk hj1
    have HVL := Sd.mk hvs
    clear hja hjb hj0 hj1 hvs dv HIs HSM
    have HOK := Sd.mk (scal_ok (v1, v2))
    have z0 := blk_cell HV2.out 0
    have z1 := blk_cell HV2.out 1
    go_wp2_with fail
    refine (scal_calls (v1, v2) w2).mono ?_
    rintro e w3 ⟨A3, c3, rfl, hC3, hc3, hb3⟩
    have HB3 := Sd.mk (HB2.out.trans (hb3.mono HB2.out.size))
    have HV3 := Sd.mk (blk_below HV2.out hb3)
    have HC3 := Sd.mk hC3
    clear hb3 hC3 HB2 HV2 z0 z1
    go_wp2_with fail
    refine (join_calls' op A A3 c c3 l.length 1 l [scal (v1, v2)] hl HOK.out w3 (Kd.C_below HL.out HB3.out) HC3.out rfl rfl HJA.out).mono ?_
    rintro e w4 ⟨Aa, ca, rfl, hCa, hca, hb4⟩
    have HB4 := Sd.mk (HB3.out.trans (hb4.mono HB3.out.size))
    have HV4 := Sd.mk (blk_below HV3.out hb4)
    have HCa := Sd.mk hCa
    clear hb4 hCa HB3 HV3 HC3
    have z0 := blk_cell HV4.out 0
    have z1 := blk_cell HV4.out 1
    go_wp2_with fail
    refine (scal_calls (v1, v2) w4).mono ?_
    rintro e w5 ⟨A5, c5, rfl, hC5, hc5, hb5⟩
    have HB5 := Sd.mk (HB4.out.trans (hb5.mono HB4.out.size))
    have HV5 := Sd.mk (blk_below HV4.out hb5)
    have HCa5 := Sd.mk (Kd.C_below HCa.out hb5)
    have HC5 := Sd.mk hC5
    clear hb5 hC5 HB4 HV4 HCa z0 z1
    go_wp2_with fail
    refine (join_calls' op A5 A c5 c 1 l.length [scal (v1, v2)] l HOK.out hl w5 HC5.out (Kd.C_below HL.out HB5.out) rfl rfl HJB.out).mono ?_
    rintro e w6 ⟨Ab, cb, rfl, hCb, hcb, hb6⟩
    have HB6 := Sd.mk (HB5.out.trans (hb6.mono HB5.out.size))
    have HV6 := Sd.mk (blk_below HV5.out hb6)
    have HCa6 := Sd.mk (Kd.C_below HCa5.out hb6)
    have HCb := Sd.mk hCb
    clear hb6 hCb HB5 HV5 HC5 HCa5
    go_wp2_with fail
    refine (own_calls A c l hl w6 (Kd.C_below HL.out HB6.out) hc).mono ?_
    rintro e w7 ⟨A7, c7, rfl, _, hC7, hc7, hb7⟩
    have HB7 := Sd.mk (HB6.out.trans (hb7.mono HB6.out.size))
    have HV7 := Sd.mk (blk_below HV6.out hb7)
    have HCa7 := Sd.mk (Kd.C_below HCa6.out hb7)
    have HCb7 := Sd.mk (Kd.C_below HCb.out hb7)
    have HC7 := Sd.mk hC7
    clear hb7 hC7 HB6 HV6 HCa6 HCb
    go_wp2_with fail
    refine (sort_calls' A7 c7 l hl w7 HC7.out HVL.out).mono ?_
    rintro e w8 ⟨As, cs, rfl, hCs, hcs, hb8⟩
    have HB8 := Sd.mk (HB7.out.trans (hb8.mono HB7.out.size))
    have HV8 := Sd.mk (blk_below HV7.out hb8)
    have HCa8 := Sd.mk (Kd.C_below HCa7.out hb8)
    have HCb8 := Sd.mk (Kd.C_below HCb7.out hb8)
    have HCs := Sd.mk hCs
    clear hb8 hCs HB7 HV7 HCa7 HCb7 HC7
    go_wp2_with fail
    refine (num_calls10 _ _).mono ?_
    rintro e w9 ⟨rfl, hb9⟩
    go_wp2_with fail
    refine (num_calls10 _ _).mono ?_
    rintro e w10 ⟨rfl, hb10⟩
    go_wp2_with fail
    refine (num_calls10 _ _).mono ?_
    rintro e w11 ⟨rfl, hb11⟩
    have hb811 : Below w8.heap.size w8 w11 := (hb9.trans (hb10.mono hb9.size)).trans (hb11.mono (Nat.le_trans hb9.size hb10.size))
    have HB11 := Sd.mk (HB8.out.trans (hb811.mono HB8.out.size))
    have HV11 := Sd.mk (blk_below HV8.out hb811)
    have HCa11 := Sd.mk (Kd.C_below HCa8.out hb811)
    have HCb11 := Sd.mk (Kd.C_below HCb8.out hb811)
    have HCs11 := Sd.mk (Kd.C_below HCs.out hb811)
    clear hb9 hb10 hb11 hb811 HB8 HV8 HCa8 HCb8 HCs
    by_cases h0 : ea = 0
    ·obtain ⟨h1, hk, hra, hrb⟩ := HJ1.out h0
     subst h0; subst h1
     have HF := Sd.mk (Fr.of HVL.out)
     have HK := Sd.mk hk
     clear hk HJA HJB HJ0 HJ1 HVL
     have la : ra.length = s.length := by rw [hra, List.length_map]
     have lb : rb.length = s.length := by rw [hrb, List.length_map]
     rw [la] at HCa11 hca
     rw [lb] at HCb11 hcb
     rw [la, lb]
     go_wp2_with fail
     refine (num_calls10 _ _).mono ?_
     rintro e w12 ⟨rfl, hb12⟩
     have HB12 := Sd.mk (HB11.out.trans (hb12.mono HB11.out.size))
     have HV12 := Sd.mk (blk_below HV11.out hb12)
     have HCa12 := Sd.mk (Kd.C_below HCa11.out hb12)
     have HCb12 := Sd.mk (Kd.C_below HCb11.out hb12)
     have HCs12 := Sd.mk (Kd.C_below HCs11.out hb12)
     clear hb12 HB11 HV11 HCa11 HCb11 HCs11
     have HS := Sd.mk (show ScS w Aa Ab As vb v1 v2 s ra rb w12 from ⟨by rw [hvb] at *; exact HB12.out, HV12.out, HCa12.out, HCb12.out, HCs12.out⟩)
     clear HB12 HV12 HCa12 HCb12 HCs12
     go_wp2
     go_loopw [13] (fun v13 wr => ∃ i : Nat, i ≤ s.length ∧ v13 = .int .i64 i ∧ Sd (ScS w Aa Ab As vb v1 v2 s ra rb wr)) (fun v13 _ => s.length - (intOf v13).toNat)
     case atStart => exact ⟨0, Nat.zero_le _, rfl, HS⟩
     case round =>
      clear HS
      obtain ⟨i, hi, rfl, HS⟩ := hrel
      by_cases hlt : i < s.length
      ·have b1 : (i : Int) < (s.length : Int) := by omega
       have b2 : (0 : Int) ≤ (i : Int) := by omega
       obtain ⟨ads, A6, c6, hAs, q0, q1, q2, hq⟩ := came_at HS.out.2.2.2.2 i hlt
       subst hAs
       have z0 := blk_cell HS.out.2.1 0
       have z1 := blk_cell HS.out.2.1 1
       rcases hdr : vDo op [((s[i]).f1.f0, (s[i]).f1.f1), (v1, v2)] with ⟨⟨x1, x2⟩, x3⟩
       rcases hdl : vDo op [(v1, v2), ((s[i]).f1.f0, (s[i]).f1.f1)] with ⟨⟨y1, y2⟩, y3⟩
       generalize hs0 : (s[i]).f1.f0 = s0 at q1 hdr hdl
       generalize hs1 : (s[i]).f1.f1 = s1 at q2 hdr hdl
       have HR := Sd.mk (rdo2 op s0 s1 v1 v2 hdr)
       have HLd := Sd.mk (rdo2 op v1 v2 s0 s1 hdl)
       go_wp2_with fail
       have sW : vb < wr.heap.size := blk_lt HS.out.2.1
       have sA : ads.block < wr.heap.size := by have := World.block_lt_of_cell? wr _ q0; rwa [add_block] at this
       have k1 : ¬ (vb = wr.heap.size) := by omega
       have k2 : ¬ (wr.heap.size = vb) := by omega
       have k3 : ¬ (vb = wr.heap.size + 1) := by omega
       have k4 : ¬ (ads.block = wr.heap.size) := by omega
       have k5 : ¬ (ads.block = wr.heap.size + 1) := by omega
       have HS' := Sd.mk HS.out
       go_cut [14] (fun v wx => ∃ N : Nat, v = .pointer (some ⟨N, 0, none⟩) ∧ Sd (Below wr.heap.size wr wx ∧ wx.heap[N]? = some (.cells #[.int .i64 x1, .int .i64 x2] 25 (0, 0))))
       case first =>
        have S1 : CellS vb (ads.add (i * 3)) v1 v2 s0 s1 wr := ⟨z0, z1, q1, q2⟩
        go_region_held3 (fun w' => w'.cell? ⟨vb, 0, none⟩ = some (.int .i64 v1) ∧ w'.cell? ⟨vb, 1, none⟩ = some (.int .i64 v2) ∧ w'.cell? ⟨(ads.add (i * 3)).block, (ads.add (i * 3)).off + 1, none⟩ = some (.int .i64 s0) ∧ w'.cell? ⟨(ads.add (i * 3)).block, (ads.add (i * 3)).off + 2, none⟩ = some (.int .i64 s1)) (first | exact hS | exact CellS.drew (by assumption) | exact CellS.alloc (by assumption) _ | exact CellS.set (CellS.set (by assumption) (by omega) (by first | omega | (rw [add_block]; omega))) (by omega) (by first | omega | (rw [add_block]; omega)) | go_keep)
         (first
          | (go_at_call 17; (with_reducible refine (HR.out _ _ (by repeat (first | exact blk_new _ _ | exact blk_new2' _ _ _ | (with_reducible refine blk_drew ?_) | exact blk_at (by first | rfl | (simp; done) | (simp [World.drew]; done)) | (with_reducible refine blk_alloc ?_ _)))).mono ?_); rintro e w3 ⟨rfl, hb1⟩; have HK := Sd.mk (kk (w0 := wr) (by repeat (first | exact Below.refl _ _ | apply bal | apply bd1 | apply pbd)) hb1); have hS : CellS vb (ads.add (i * 3)) v1 v2 s0 s1 _ := CellS.below (by assumption) hb1; have sz := HK.out.size; have k6 : ¬ (vb = w3.heap.size) := (by omega); have k7 : ¬ (w3.heap.size = vb) := (by omega); have k8 : ¬ (ads.block = w3.heap.size) := (by omega); have k9 : ¬ (w3.heap.size = ads.block) := (by omega); (first | (have HZ := Sd.mk (blk_below (blk_drew (blk_alloc (blk_new wr (.cells #[.int .i64 0, .int .i64 0] 25)) _)) hb1); have p0 : w3.cell? ⟨wr.heap.size, 0, none⟩ = some (.int .i64 0) := blk_cell HZ.out 0; have p1 : w3.cell? ⟨wr.heap.size, 1, none⟩ = some (.int .i64 0) := blk_cell HZ.out 1; have p2 : w3.frozen? ⟨wr.heap.size, 0, none⟩ = false := blk_frozen HZ.out 0; have p3 : w3.frozen? ⟨wr.heap.size, 1, none⟩ = false := blk_frozen HZ.out 1) | (have HZ := Sd.mk (blk_below (blk_alloc (blk_new wr (.cells #[.int .i64 0, .int .i64 0] 25)) _) hb1); have p0 : w3.cell? ⟨wr.heap.size, 0, none⟩ = some (.int .i64 0) := blk_cell HZ.out 0; have p1 : w3.cell? ⟨wr.heap.size, 1, none⟩ = some (.int .i64 0) := blk_cell HZ.out 1; have p2 : w3.frozen? ⟨wr.heap.size, 0, none⟩ = false := blk_frozen HZ.out 0; have p3 : w3.frozen? ⟨wr.heap.size, 1, none⟩ = false := blk_frozen HZ.out 1) | (have HZ := Sd.mk (blk_below (blk_drew (blk_new2' wr _ (.cells #[.int .i64 0, .int .i64 0] 25))) hb1); have p0 : w3.cell? ⟨wr.heap.size + 1, 0, none⟩ = some (.int .i64 0) := blk_cell HZ.out 0; have p1 : w3.cell? ⟨wr.heap.size + 1, 1, none⟩ = some (.int .i64 0) := blk_cell HZ.out 1; have p2 : w3.frozen? ⟨wr.heap.size + 1, 0, none⟩ = false := blk_frozen HZ.out 0; have p3 : w3.frozen? ⟨wr.heap.size + 1, 1, none⟩ = false := blk_frozen HZ.out 1) | (have HZ := Sd.mk (blk_below (blk_new2' wr _ (.cells #[.int .i64 0, .int .i64 0] 25)) hb1); have p0 : w3.cell? ⟨wr.heap.size + 1, 0, none⟩ = some (.int .i64 0) := blk_cell HZ.out 0; have p1 : w3.cell? ⟨wr.heap.size + 1, 1, none⟩ = some (.int .i64 0) := blk_cell HZ.out 1; have p2 : w3.frozen? ⟨wr.heap.size + 1, 0, none⟩ = false := blk_frozen HZ.out 0; have p3 : w3.frozen? ⟨wr.heap.size + 1, 1, none⟩ = false := blk_frozen HZ.out 1) | skip); clear hb1))
        all_goals (go_wp2_with fail; go_meet)
        all_goals (refine ⟨_, rfl, ⟨?_, ?_⟩⟩)
        all_goals first
         | ((repeat (first | exact HK.out | apply bal | apply bd1 | refine bst ?_ (by first | exact Nat.le_refl _ | omega))); done)
         | exact blk_new _ _
         | (refine blk_put (cs := #[.int .i64 x1, .int .i64 0]) ?_ 1 _ rfl; refine blk_put (cs := #[.int .i64 0, .int .i64 0]) ?_ 0 _ rfl; exact HZ.out)
       case rest =>
        obtain ⟨N14, rfl, HN⟩ := hcut
        obtain ⟨wx, hwx⟩ : ∃ x, x = wc := ⟨_, rfl⟩
        subst hwx
        have HS2 := Sd.mk (HS'.out.below HN.out.1)
        replace q0 := pw_cell_below HN.out.1 q0
        replace q1 := pw_cell_below HN.out.1 q1
        replace q2 := pw_cell_below HN.out.1 q2
        replace z0 := pw_cell_below HN.out.1 z0
        replace z1 := pw_cell_below HN.out.1 z1
        have HFq := Sd.mk (Kd.FK_below hq HN.out.1)
        have HB14 := Sd.mk HN.out.2
        clear k1 k2 k3 k4 k5 sW sA HR HS HS' HN hq
        go_wp2_with fail
        have sW : vb < wx.heap.size := blk_lt HS2.out.2.1
        have sA : ads.block < wx.heap.size := by have := World.block_lt_of_cell? wx _ q0; rwa [add_block] at this
        have k1 : ¬ (vb = wx.heap.size) := by omega
        have k2 : ¬ (wx.heap.size = vb) := by omega
        have k3 : ¬ (vb = wx.heap.size + 1) := by omega
        have k4 : ¬ (ads.block = wx.heap.size) := by omega
        have k5 : ¬ (ads.block = wx.heap.size + 1) := by omega
        go_cut [16] (fun v wy => ∃ N : Nat, v = .pointer (some ⟨N, 0, none⟩) ∧ Sd (Below wx.heap.size wx wy ∧ wy.heap[N]? = some (.cells #[.int .i64 y1, .int .i64 y2] 25 (0, 0))))
        case first =>
         have S1 : CellS vb (ads.add (i * 3)) v1 v2 s0 s1 wx := ⟨z0, z1, q1, q2⟩
         go_region_held3 (fun w' => w'.cell? ⟨vb, 0, none⟩ = some (.int .i64 v1) ∧ w'.cell? ⟨vb, 1, none⟩ = some (.int .i64 v2) ∧ w'.cell? ⟨(ads.add (i * 3)).block, (ads.add (i * 3)).off + 1, none⟩ = some (.int .i64 s0) ∧ w'.cell? ⟨(ads.add (i * 3)).block, (ads.add (i * 3)).off + 2, none⟩ = some (.int .i64 s1)) (first | exact hS | exact CellS.drew (by assumption) | exact CellS.alloc (by assumption) _ | exact CellS.set (CellS.set (by assumption) (by omega) (by first | omega | (rw [add_block]; omega))) (by omega) (by first | omega | (rw [add_block]; omega)) | go_keep)
          (first
           | (go_at_call 17; (with_reducible refine (HLd.out _ _ (by repeat (first | exact blk_new _ _ | exact blk_new2' _ _ _ | (with_reducible refine blk_drew ?_) | exact blk_at (by first | rfl | (simp; done) | (simp [World.drew]; done)) | (with_reducible refine blk_alloc ?_ _)))).mono ?_); rintro e w3 ⟨rfl, hb1⟩; have HK := Sd.mk (kk (w0 := wx) (by repeat (first | exact Below.refl _ _ | apply bal | apply bd1 | apply pbd)) hb1); have hS : CellS vb (ads.add (i * 3)) v1 v2 s0 s1 _ := CellS.below (by assumption) hb1; have sz := HK.out.size; have k6 : ¬ (vb = w3.heap.size) := (by omega); have k7 : ¬ (w3.heap.size = vb) := (by omega); have k8 : ¬ (ads.block = w3.heap.size) := (by omega); have k9 : ¬ (w3.heap.size = ads.block) := (by omega); (first | (have HZ := Sd.mk (blk_below (blk_drew (blk_alloc (blk_new wx (.cells #[.int .i64 0, .int .i64 0] 25)) _)) hb1); have p0 : w3.cell? ⟨wx.heap.size, 0, none⟩ = some (.int .i64 0) := blk_cell HZ.out 0; have p1 : w3.cell? ⟨wx.heap.size, 1, none⟩ = some (.int .i64 0) := blk_cell HZ.out 1; have p2 : w3.frozen? ⟨wx.heap.size, 0, none⟩ = false := blk_frozen HZ.out 0; have p3 : w3.frozen? ⟨wx.heap.size, 1, none⟩ = false := blk_frozen HZ.out 1) | (have HZ := Sd.mk (blk_below (blk_alloc (blk_new wx (.cells #[.int .i64 0, .int .i64 0] 25)) _) hb1); have p0 : w3.cell? ⟨wx.heap.size, 0, none⟩ = some (.int .i64 0) := blk_cell HZ.out 0; have p1 : w3.cell? ⟨wx.heap.size, 1, none⟩ = some (.int .i64 0) := blk_cell HZ.out 1; have p2 : w3.frozen? ⟨wx.heap.size, 0, none⟩ = false := blk_frozen HZ.out 0; have p3 : w3.frozen? ⟨wx.heap.size, 1, none⟩ = false := blk_frozen HZ.out 1) | (have HZ := Sd.mk (blk_below (blk_drew (blk_new2' wx _ (.cells #[.int .i64 0, .int .i64 0] 25))) hb1); have p0 : w3.cell? ⟨wx.heap.size + 1, 0, none⟩ = some (.int .i64 0) := blk_cell HZ.out 0; have p1 : w3.cell? ⟨wx.heap.size + 1, 1, none⟩ = some (.int .i64 0) := blk_cell HZ.out 1; have p2 : w3.frozen? ⟨wx.heap.size + 1, 0, none⟩ = false := blk_frozen HZ.out 0; have p3 : w3.frozen? ⟨wx.heap.size + 1, 1, none⟩ = false := blk_frozen HZ.out 1) | (have HZ := Sd.mk (blk_below (blk_new2' wx _ (.cells #[.int .i64 0, .int .i64 0] 25)) hb1); have p0 : w3.cell? ⟨wx.heap.size + 1, 0, none⟩ = some (.int .i64 0) := blk_cell HZ.out 0; have p1 : w3.cell? ⟨wx.heap.size + 1, 1, none⟩ = some (.int .i64 0) := blk_cell HZ.out 1; have p2 : w3.frozen? ⟨wx.heap.size + 1, 0, none⟩ = false := blk_frozen HZ.out 0; have p3 : w3.frozen? ⟨wx.heap.size + 1, 1, none⟩ = false := blk_frozen HZ.out 1) | skip); clear hb1))
         all_goals (go_wp2_with fail; go_meet)
         all_goals (refine ⟨_, rfl, ⟨?_, ?_⟩⟩)
         all_goals first
          | ((repeat (first | exact HK.out | apply bal | apply bd1 | refine bst ?_ (by first | exact Nat.le_refl _ | omega))); done)
          | exact blk_new _ _
          | (refine blk_put (cs := #[.int .i64 y1, .int .i64 0]) ?_ 1 _ rfl; refine blk_put (cs := #[.int .i64 0, .int .i64 0]) ?_ 0 _ rfl; exact HZ.out)
        case rest =>
         obtain ⟨N16, rfl, HM⟩ := hcut
         have HS3 := Sd.mk (HS2.out.below HM.out.1)
         replace q0 := pw_cell_below HM.out.1 q0
         have era : rVal op (v1, v2) s[i] = ⟨(s[i]).f0, ⟨x1, x2⟩⟩ := by unfold rVal; rw [hs0, hs1, hdr]
         have erb : lVal op (v1, v2) s[i] = ⟨(s[i]).f0, ⟨y1, y2⟩⟩ := by unfold lVal; rw [hs0, hs1, hdl]
         obtain ⟨_, _, ecs, hlc, hLab⟩ := k37_open (Kd.FK_now (Kd.FK_below HFq.out HM.out.1))
         injection ecs with e1 _
         injection e1 with e1 _ e3
         subst e1
         subst e3
         have hCa := one_C (by rw [la]; exact HS3.out.2.2.1 : Kd.C k37 wc Aa ra.length ra) i (by omega) (by omega : ra.length ≤ ca)
         have hCb := one_C (by rw [lb]; exact HS3.out.2.2.2.1 : Kd.C k37 wc Ab rb.length rb) i (by omega) (by omega : rb.length ≤ cb)
         have ea1 : ra[i]'(by omega) = ⟨(s[i]).f0, ⟨x1, x2⟩⟩ := by rw [← era]; simp only [hra, List.getElem_map]
         have eb1 : rb[i]'(by omega) = ⟨(s[i]).f0, ⟨y1, y2⟩⟩ := by rw [← erb]; simp only [hrb, List.getElem_map]
         rw [ea1] at hCa
         rw [eb1] at hCb
         obtain ⟨Sa, hSa⟩ : ∃ S, (if ca = i then Aa else Option.map (fun x => x.add (i * 3)) Aa) = S := ⟨_, rfl⟩
         obtain ⟨Sb, hSb⟩ : ∃ S, (if cb = i then Ab else Option.map (fun x => x.add (i * 3)) Ab) = S := ⟨_, rfl⟩
         rw [hSa] at hCa
         rw [hSb] at hCb
         have hz : ∀ v : S25, SersOk [⟨(s[i]).f0, v⟩] := fun v => ⟨by rw [List.length_singleton]; omega, fun x hx => by rw [List.mem_singleton.1 hx]; have h := HF.out.sers.2 s[i] (List.getElem_mem hlt); exact h⟩
         obtain ⟨j, hj⟩ : ∃ j, i + 1 = j := ⟨_, rfl⟩
         have hwp : IntKind.i64.wrap ((i : Int) + 1) = (j : Int) := by rw [IntKind.wrap_i64]; have := HF.out.len; omega
         have g1 : (i : Int) ≤ (j : Int) := by omega
         have g2 : i ≤ j := by omega
         have g3 : (j : Int) ≤ (ca : Int) := by omega
         have g4 : j ≤ ca := by omega
         have g5 : (j : Int) ≤ (cb : Int) := by omega
         have g6 : j ≤ cb := by omega
         have hji : j - i = 1 := by omega
         have hca1 : 1 ≤ ca - i := by omega
         have hcb1 : 1 ≤ cb - i := by omega
         have S1 : ScT w Aa Ab (some ads) vb v1 v2 s ra rb (ads.add (i * 3)) A6 c6 (s[i]).f0 N14 N16 x1 x2 y1 y2 Sa Sb wc := ⟨q0, blk_cell (blk_below HB14.out HM.out.1) 0, blk_cell (blk_below HB14.out HM.out.1) 1, blk_cell HM.out.2 0, blk_cell HM.out.2 1, ⟨⟨hLab, hCa, hCb⟩⟩, HS3⟩
         have HZ := Sd.mk hz
         clear HS2 HS3 q0 q1 q2 z0 z1 hLab hCa hCb ea1 eb1 era erb hz HFq HB14 HM hdr hdl HLd sW sA k1 k2 k3 k4 k5
         go_wp2_with fail
         go_region_held3 (fun w' => w'.cell? (ads.add (i * 3)) = some (.slice A6 (s[i]).f0.length c6) ∧ w'.cell? ⟨N14, 0, none⟩ = some (.int .i64 x1) ∧ w'.cell? ⟨N14, 1, none⟩ = some (.int .i64 x2) ∧ w'.cell? ⟨N16, 0, none⟩ = some (.int .i64 y1) ∧ w'.cell? ⟨N16, 1, none⟩ = some (.int .i64 y2) ∧ Sd (Kd.C k62 w' A6 (s[i]).f0.length (s[i]).f0 ∧ Kd.C k37 w' Sa 1 [⟨(s[i]).f0, ⟨x1, x2⟩⟩] ∧ Kd.C k37 w' Sb 1 [⟨(s[i]).f0, ⟨y1, y2⟩⟩]) ∧ Sd (ScS w Aa Ab (some ads) vb v1 v2 s ra rb w')) (first | exact hS | exact ScT.drew (by assumption) | exact ScT.alloc (by assumption) _ | go_keep)
          (first
           | (go_at_call 16; (with_reducible refine (ScT.sameA (by first | assumption | exact ScT.alloc (by assumption) _ | exact ScT.drew (ScT.alloc (by assumption) _) | exact ScT.alloc (ScT.drew (by assumption)) _ | exact ScT.drew (ScT.alloc (ScT.drew (by assumption)) _) : ScT w Aa Ab (some ads) vb v1 v2 s ra rb (ads.add (i * 3)) A6 c6 (s[i]).f0 N14 N16 x1 x2 y1 y2 Sa Sb _) (by repeat (first | exact blk_new _ _ | (with_reducible refine blk_drew ?_) | (with_reducible refine blk_alloc ?_ _))) (by first | exact hji | rfl) hca1 hlc HZ.out).mono ?_); rintro e w2 ⟨rfl, hS⟩)
           | (go_at_call 16; (with_reducible refine (ScT.sameB (by first | assumption | exact ScT.alloc (by assumption) _ | exact ScT.drew (ScT.alloc (by assumption) _) | exact ScT.alloc (ScT.drew (by assumption)) _ | exact ScT.drew (ScT.alloc (ScT.drew (by assumption)) _) : ScT w Aa Ab (some ads) vb v1 v2 s ra rb (ads.add (i * 3)) A6 c6 (s[i]).f0 N14 N16 x1 x2 y1 y2 Sa Sb _) (by repeat (first | exact blk_new _ _ | (with_reducible refine blk_drew ?_) | (with_reducible refine blk_alloc ?_ _))) (by first | exact hji | rfl) hcb1 hlc HZ.out).mono ?_); rintro e w2 ⟨rfl, hS⟩))
         all_goals go_wp2
         all_goals go_roundw
         case rel => exact ⟨j, by omega, rfl, (show ScT w Aa Ab (some ads) vb v1 v2 s ra rb (ads.add (i * 3)) A6 c6 (s[i]).f0 N14 N16 x1 x2 y1 y2 Sa Sb _ by assumption).2.2.2.2.2.2⟩
         case measure => simp [intOf]; omega
      ·have n1 : decide ((i : Int) < (s.length : Int)) = false := decide_eq_false (by omega)
       have n2 : decide (i < s.length) = false := decide_eq_false hlt
       clear hi hlt
       go_wp2_with fail
       refine (l10_live.calls true _ rfl).mono ?_
       rintro e w19 ⟨rfl, hb19⟩
       have HB := Sd.mk (HS.out.1.trans (hb19.mono HS.out.1.size))
       clear hb19
       go_wp2
       go_ret
       exact ⟨rfl, HB.out⟩
    ·have n0 : (ea == 0) = false := by simpa using h0
     obtain ⟨rfl, rfl⟩ := HJ0.out h0
     have HBw := Sd.mk (show Below w.heap.size w w11 by rw [hvb] at *; exact HB11.out)
     clear HB11
     go_wp2
     go_loopw [13] (fun v13 wr => v13 = .int .i64 0 ∧ Sd (Below w.heap.size w wr)) (fun _ _ => 0)
     case atStart => exact ⟨rfl, HBw⟩
     case round =>
      clear HBw
      obtain ⟨rfl, HW⟩ := hrel
      go_wp2_with fail
      refine (l10_live.calls true _ rfl).mono ?_
      rintro e w19 ⟨rfl, hb19⟩
      have HB := Sd.mk (HW.out.trans (hb19.mono HW.out.size))
      clear hb19
      go_wp2
      go_ret
      exact ⟨rfl, HB.out⟩
   ·have dv : decide (isV (v1, v2)) = false := decide_eq_false hv
    rw [dv]
    go_wp2_with fail
    refine (l10_live.calls true _ rfl).mono ?_
    rintro e w3 ⟨rfl, hb3⟩
    have HB := Sd.mk (HB2.out.trans (hb3.mono HB2.out.size))
    clear hb3
    go_wp2
    go_ret
    exact ⟨rfl, by rw [hvb] at *; exact HB.out⟩
theorem rowScalar.calls (op : ByteArray) (A : Option Addr) (c : Nat) (l : List Ser) (v1 v2 : Int) (hl : SersOk l) (w : World) (hr : Kd.C k37 w A l.length l) (hc : l.length ≤ c) :
  Calls Tryz.prog 6 #[.string op, .slice A l.length c, .agg #[.int .i64 v1, .int .i64 v2]] w fun e w' => e = .returned (.bool true) ∧ Below w.heap.size w w' := sscalar_calls op A c l v1 v2 hl w hr hc
end Go.Proofs.YtcmiehddjgfjaaaGreat.A
