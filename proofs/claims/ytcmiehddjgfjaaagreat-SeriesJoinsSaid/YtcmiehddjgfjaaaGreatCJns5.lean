/- A part of the proof of LawSeriesJoins: contracts and plain laws, put together by a program of this session. -/
import Derived.Test.YtcmiehddjgfjaaaGreatCJns4
import Derived.Lib.Strings
set_option linter.unusedVariables false
set_option linter.unusedSimpArgs false
set_option linter.unusedSectionVars false
set_option maxHeartbeats 8000000
set_option maxRecDepth 100000
namespace Go.Proofs.YtcmiehddjgfjaaaGreat.A
open Go.RowKit Go.Proofs.YtcmiehddjgfjaaaGreatW.PrintWords Go.Proofs.YtcmiehddjgfjaaaGreatW.PrintLast Go.Proofs.YtcmiehddjgfjaaaGreatW.PrintMore
attribute [local go_sem] max2_int min2_int max_two min_two max_three min_three max_four min_four   -- for this text's walks alone
attribute [local go_sem high] eqA25
mutual
def r8_two.l0 : Nat → ByteArray → Bool → List ByteArray → Int → Int → Int → Int → Int → Option (Int × Int × Bool)
 | 0, _, _, _, _, _, _, _, _ => none
 | k + 1, x0, x8, x9, x10, x327000, x327001, x328000, x328001 => if x10 < (x9.length : Int) then (if x8 = true then (r8_two.l0 k x0 true x9 (wrap64 (x10 + 1)) x327000 x327001 x328000 x328001) else (if 0 ≤ x10 then (r8_two.l0 k x0 ((rdOf ByteArray.empty x9 x10).toList == x0.toList) x9 (wrap64 (x10 + 1)) x327000 x327001 x328000 x328001) else (none))) else (if x8 = true then (if x327000 = 2 then (r8_two.j1 k x0 true x327000 x327001 x328000 x328001) else (r8_two.j1 k x0 (x328000 == 2) x327000 x327001 x328000 x328001)) else (some (0, 0, false)))
def r8_two.j1 : Nat → ByteArray → Bool → Int → Int → Int → Int → Option (Int × Int × Bool)
 | 0, _, _, _, _, _, _ => none
 | k + 1, x0, x38, x327000, x327001, x328000, x328001 => if x38 = true then ((r8_Null.f).bind fun bt333 => (some (bt333.1, bt333.2, true))) else (if x327000 = 3 then (r8_two.j2 k x0 true x327000 x327001 x328000 x328001) else (r8_two.j2 k x0 (x328000 == 3) x327000 x327001 x328000 x328001))
def r8_two.j2 : Nat → ByteArray → Bool → Int → Int → Int → Int → Option (Int × Int × Bool)
 | 0, _, _, _, _, _, _ => none
 | k + 1, x0, x11, x327000, x327001, x328000, x328001 => if x0.toList = ([38, 38] : List UInt8) then ((r8_True.f x327000 x327001).bind fun t335 => (if t335 = true then ((r8_True.f x328000 x328001).bind fun t336 => ((r8_Truth.f t336).bind fun bt337 => (some (bt337.1, bt337.2, true)))) else ((r8_Truth.f false).bind fun bt339 => (some (bt339.1, bt339.2, true))))) else (if x0.toList = ([124, 124] : List UInt8) then ((r8_True.f x327000 x327001).bind fun t341 => (if t341 = true then ((r8_Truth.f true).bind fun bt342 => (some (bt342.1, bt342.2, true))) else ((r8_True.f x328000 x328001).bind fun t344 => ((r8_Truth.f t344).bind fun bt345 => (some (bt345.1, bt345.2, true)))))) else (if x0.toList = ([61, 61] : List UInt8) then (if x11 = true then ((r8_Truth.f false).bind fun bt347 => (some (bt347.1, bt347.2, true))) else ((r8_Truth.f (x327000 == x328000 && (x327001 == x328001))).bind fun bt349 => (some (bt349.1, bt349.2, true)))) else (if x0.toList = ([33, 61] : List UInt8) then (if x11 = true then ((r8_Truth.f true).bind fun bt351 => (some (bt351.1, bt351.2, true))) else ((r8_Truth.f (!(x327000 == x328000) || (!(x327001 == x328001)))).bind fun bt353 => (some (bt353.1, bt353.2, true)))) else (if x0.toList = ([60] : List UInt8) then (if x11 = true then ((r8_Truth.f false).bind fun bt355 => (some (bt355.1, bt355.2, true))) else ((r8_Less.f k x327000 x327001 x328000 x328001).bind fun t357 => ((r8_Truth.f t357).bind fun bt358 => (some (bt358.1, bt358.2, true))))) else (if x0.toList = ([60, 61] : List UInt8) then (if x11 = true then ((r8_Truth.f false).bind fun bt360 => (some (bt360.1, bt360.2, true))) else ((r8_Less.f k x328000 x328001 x327000 x327001).bind fun t362 => ((r8_Truth.f (!t362)).bind fun bt363 => (some (bt363.1, bt363.2, true))))) else (if x0.toList = ([62] : List UInt8) then (if x11 = true then ((r8_Truth.f false).bind fun bt365 => (some (bt365.1, bt365.2, true))) else ((r8_Less.f k x328000 x328001 x327000 x327001).bind fun t367 => ((r8_Truth.f t367).bind fun bt368 => (some (bt368.1, bt368.2, true))))) else (if x0.toList = ([62, 61] : List UInt8) then (if x11 = true then ((r8_Truth.f false).bind fun bt370 => (some (bt370.1, bt370.2, true))) else ((r8_Less.f k x327000 x327001 x328000 x328001).bind fun t372 => ((r8_Truth.f (!t372)).bind fun bt373 => (some (bt373.1, bt373.2, true))))) else (if x11 = true then ((r8_NaN.f).bind fun bt375 => (some (bt375.1, bt375.2, true))) else (if x0.toList = ([43] : List UInt8) then ((r8_add.f k x327000 x327001 x328000 x328001).bind fun bt377 => (some (bt377.1, bt377.2, true))) else (if x0.toList = ([45] : List UInt8) then ((r8_turned.f x328000 x328001).bind fun bt379 => ((r8_add.f k x327000 x327001 bt379.1 bt379.2).bind fun bt381 => (some (bt381.1, bt381.2, true)))) else (if x0.toList = ([42] : List UInt8) then ((r8_times.f k x327000 x327001 x328000 x328001).bind fun bt383 => (some (bt383.1, bt383.2, true))) else ((r8_over.f k x327000 x327001 x328000 x328001).bind fun bt385 => (some (bt385.1, bt385.2, true))))))))))))))
end
def r8_two.f (k : Nat) (a0 : ByteArray) (a1_0 : Int) (a1_1 : Int) (a2_0 : Int) (a2_1 : Int) : Option (Int × Int × Bool) := r8_two.l0 k a0 false (([(⟨#[43]⟩ : ByteArray), (⟨#[45]⟩ : ByteArray), (⟨#[42]⟩ : ByteArray), (⟨#[47]⟩ : ByteArray), (⟨#[61, 61]⟩ : ByteArray), (⟨#[33, 61]⟩ : ByteArray), (⟨#[60]⟩ : ByteArray), (⟨#[60, 61]⟩ : ByteArray), (⟨#[62]⟩ : ByteArray), (⟨#[62, 61]⟩ : ByteArray), (⟨#[38, 38]⟩ : ByteArray), (⟨#[124, 124]⟩ : ByteArray)] : List ByteArray)) 0 a1_0 a1_1 a2_0 a2_1
theorem r8_two.calls (k : Nat) (a0 : ByteArray) (a1_0 : Int) (a1_1 : Int) (a2_0 : Int) (a2_1 : Int) (r1 : Int) (r2 : Int) (r3 : Bool) (w : World) (h : r8_two.f k a0 a1_0 a1_1 a2_0 a2_1 = some (r1, r2, r3)) :
  Calls Tryz.prog 61 #[.string a0, .agg #[.int .i64 a1_0, .int .i64 a1_1], .agg #[.int .i64 a2_0, .int .i64 a2_1]] w fun e w' => e = .returned (.tuple #[.agg #[.int .i64 r1, .int .i64 r2], .bool r3]) ∧ Below w.heap.size w w' := by
 have hu25 := Tryz.underlying25
 have HB := zsB w
 have H : (r8_two.l0 k a0 false (([(⟨#[43]⟩ : ByteArray), (⟨#[45]⟩ : ByteArray), (⟨#[42]⟩ : ByteArray), (⟨#[47]⟩ : ByteArray), (⟨#[61, 61]⟩ : ByteArray), (⟨#[33, 61]⟩ : ByteArray), (⟨#[60]⟩ : ByteArray), (⟨#[60, 61]⟩ : ByteArray), (⟨#[62]⟩ : ByteArray), (⟨#[62, 61]⟩ : ByteArray), (⟨#[38, 38]⟩ : ByteArray), (⟨#[124, 124]⟩ : ByteArray)] : List ByteArray)) 0 a1_0 a1_1 a2_0 a2_1) = some (r1, r2, r3) := h
 clear h
 obtain ⟨y329, hy329⟩ : ∃ y_ : List ByteArray, y_ = (([(⟨#[43]⟩ : ByteArray), (⟨#[45]⟩ : ByteArray), (⟨#[42]⟩ : ByteArray), (⟨#[47]⟩ : ByteArray), (⟨#[61, 61]⟩ : ByteArray), (⟨#[33, 61]⟩ : ByteArray), (⟨#[60]⟩ : ByteArray), (⟨#[60, 61]⟩ : ByteArray), (⟨#[62]⟩ : ByteArray), (⟨#[62, 61]⟩ : ByteArray), (⟨#[38, 38]⟩ : ByteArray), (⟨#[124, 124]⟩ : ByteArray)] : List ByteArray)) := ⟨_, rfl⟩
 replace H : (r8_two.l0 k a0 false y329 0 a1_0 a1_1 a2_0 a2_1) = some (r1, r2, r3) := by first | (rw [hy329]; with_reducible exact H) | (have H2_ := (Option.bind_some _ _).symm.trans H; rw [hy329]; with_reducible exact H2_) | (have H2_ := (Option.bind_some _ _).symm.trans H; with_reducible exact H2_) | with_reducible exact H | (rw [hy329]; exact H) | exact H
 have Ny329 := Sd.mk hy329
 clear hy329
 have H' := Sd.mk H
 clear H
 go_enter Tryz.func61, Tryz.ntmps61
 go_wp2_with (first | ((with_reducible refine gate_dst (N := 4) rfl ?_); refine bxe (N := 4) (cs := #[.int .i64 a1_0, .int .i64 a1_1]) (t := 25) ?_; intro gb326 hg w4 hbox hb; have BK326 := Sd.mk hbox; have GW326 := bge w hg; replace HB := bsq w hb; clear hb hbox hg) | ((with_reducible refine gate_dst (N := 5) rfl ?_); refine bxe (N := 5) (cs := #[.int .i64 a2_0, .int .i64 a2_1]) (t := 25) ?_; intro gb327 hg w5 hbox hb; have BK327 := Sd.mk hbox; have GW327 := bge w hg; have NB326_327 := bnl BK326 hg; have NB327_326 := bng BK326 hg; replace BK326 := bkb BK326 hb; replace HB := bsq w hb; clear hb hbox hg) | ((with_reducible refine gate_dst (N := 6) rfl ?_); refine bxe (N := 6) (cs := #[.int .i64 0, .int .i64 0]) (t := 25) ?_; intro gb328 hg w6 hbox hb; have BK328 := Sd.mk hbox; have GW328 := bge w hg; have NB326_328 := bnl BK326 hg; have NB328_326 := bng BK326 hg; have NB327_328 := bnl BK327 hg; have NB328_327 := bng BK327 hg; replace BK326 := bkb BK326 hb; replace BK327 := bkb BK327 hb; replace HB := bsq w hb; clear hb hbox hg) | ((with_reducible refine gate_dst (N := 12) rfl ?_); refine Kd.R_lit Kd.string _ 9 ?hg (N := 12) ?hd (xs := ([(⟨#[43]⟩ : ByteArray), (⟨#[45]⟩ : ByteArray), (⟨#[42]⟩ : ByteArray), (⟨#[47]⟩ : ByteArray), (⟨#[61, 61]⟩ : ByteArray), (⟨#[33, 61]⟩ : ByteArray), (⟨#[60]⟩ : ByteArray), (⟨#[60, 61]⟩ : ByteArray), (⟨#[62]⟩ : ByteArray), (⟨#[62, 61]⟩ : ByteArray), (⟨#[38, 38]⟩ : ByteArray), (⟨#[124, 124]⟩ : ByteArray)] : List ByteArray)) (inner := [.string (⟨#[43]⟩ : ByteArray), .string (⟨#[45]⟩ : ByteArray), .string (⟨#[42]⟩ : ByteArray), .string (⟨#[47]⟩ : ByteArray), .string (⟨#[61, 61]⟩ : ByteArray), .string (⟨#[33, 61]⟩ : ByteArray), .string (⟨#[60]⟩ : ByteArray), .string (⟨#[60, 61]⟩ : ByteArray), .string (⟨#[62]⟩ : ByteArray), .string (⟨#[62, 61]⟩ : ByteArray), .string (⟨#[38, 38]⟩ : ByteArray), .string (⟨#[124, 124]⟩ : ByteArray)]) (ok := fun _ => True) (okp := fun _ => True) ?hr ?hp (fun _ hk => hk) trivial (Below.refl _ _) (Nat.le_refl _) (by simp) ?_; (case hd => rfl); (case hg => rfl); (case hr => first | (go_simp; done) | (go_simp; rfl)); (case hp => exact (Reps.one (show Kd.M Kd.string _ _ _ (⟨#[43]⟩ : ByteArray) [.string (⟨#[43]⟩ : ByteArray)] from rfl) (Reps.one (show Kd.M Kd.string _ _ _ (⟨#[45]⟩ : ByteArray) [.string (⟨#[45]⟩ : ByteArray)] from rfl) (Reps.one (show Kd.M Kd.string _ _ _ (⟨#[42]⟩ : ByteArray) [.string (⟨#[42]⟩ : ByteArray)] from rfl) (Reps.one (show Kd.M Kd.string _ _ _ (⟨#[47]⟩ : ByteArray) [.string (⟨#[47]⟩ : ByteArray)] from rfl) (Reps.one (show Kd.M Kd.string _ _ _ (⟨#[61, 61]⟩ : ByteArray) [.string (⟨#[61, 61]⟩ : ByteArray)] from rfl) (Reps.one (show Kd.M Kd.string _ _ _ (⟨#[33, 61]⟩ : ByteArray) [.string (⟨#[33, 61]⟩ : ByteArray)] from rfl) (Reps.one (show Kd.M Kd.string _ _ _ (⟨#[60]⟩ : ByteArray) [.string (⟨#[60]⟩ : ByteArray)] from rfl) (Reps.one (show Kd.M Kd.string _ _ _ (⟨#[60, 61]⟩ : ByteArray) [.string (⟨#[60, 61]⟩ : ByteArray)] from rfl) (Reps.one (show Kd.M Kd.string _ _ _ (⟨#[62]⟩ : ByteArray) [.string (⟨#[62]⟩ : ByteArray)] from rfl) (Reps.one (show Kd.M Kd.string _ _ _ (⟨#[62, 61]⟩ : ByteArray) [.string (⟨#[62, 61]⟩ : ByteArray)] from rfl) (Reps.one (show Kd.M Kd.string _ _ _ (⟨#[38, 38]⟩ : ByteArray) [.string (⟨#[38, 38]⟩ : ByteArray)] from rfl) (Reps.one (show Kd.M Kd.string _ _ _ (⟨#[124, 124]⟩ : ByteArray) [.string (⟨#[124, 124]⟩ : ByteArray)] from rfl) (Reps.none _ _)))))))))))))); intro v330 w7 ho8 hb hg_ hnew_; clear hg_ hnew_; (first | rw [← Ny329.out] at ho8 | (simp only [Int.reduceToNat] at ho8; rw [← Ny329.out] at ho8)); have n0_ := Sd.mk (Kd.R_lower ho8 (below_size bbl)); have n1_ := bkb BK326 hb; have n2_ := bkb BK327 hb; have n3_ := bkb BK328 hb; have n4_ := bsq w hb; clear BK326; clear BK327; clear BK328; clear HB; have HO331 := n0_; have BK326 := n1_; have BK327 := n2_; have BK328 := n3_; have HB := n4_; clear n0_ n1_ n2_ n3_ n4_; clear hb ho8))
 go_loopg [8, 10] k (fun kq v8 v10 w' => ∃ (x8_1 : Bool) (x10_1 : Int), v8 = .bool x8_1 ∧ v10 = .int .i64 x10_1 ∧ Sd (r8_two.l0 kq a0 x8_1 y329 x10_1 a1_0 a1_1 a2_0 a2_1 = some (r1, r2, r3)) ∧ Sd (kq ≤ k) ∧ Sd (Kd.R Kd.string 9 w' w.heap.size (fun _ => True) v330 y329) ∧ Sd (w'.heap[gb326]? = some (.cells #[.int .i64 a1_0, .int .i64 a1_1] 25 (0, 0))) ∧ Sd (w'.heap[gb327]? = some (.cells #[.int .i64 a2_0, .int .i64 a2_1] 25 (0, 0))) ∧ Sd (w'.heap[gb328]? = some (.cells #[.int .i64 0, .int .i64 0] 25 (0, 0))) ∧ Sd (Below w.heap.size w w'))
 case atStart => exact ⟨(false), (0), ae, ae, H', ⟨Nat.le_refl _⟩, fwR HO331, fwK BK326, fwK BK327, fwK BK328, ⟨bbl⟩⟩
 case round =>
  clear H'
  obtain ⟨x8_1, x10_1, rfl, rfl, HA, HK1, HO_9, BK326, BK327, BK328, HB⟩ := hrel
  cases gk with
  | zero => exact absurd HA.out (by simp [r8_two.l0])
  | succ k1 =>
   have H := HA.out
   clear HA
   simp only [r8_two.l0] at H
   by_cases c9 : x10_1 < (y329.length : Int)
   ·rw [if_pos c9] at H
    have c9b0 : decide (x10_1 < (y329.length : Int)) = true := decide_eq_true c9
    clear c9
    by_cases c10 : x8_1 = true
    ·subst c10
     replace H := iT H
     have H' := Sd.mk H
     clear H
     obtain ⟨Ao11, co11, eo11⟩ := Kd.R_slice HO_9.out
     subst eo11
     go_wp2
     go_roundg k1
     case measure => have := HK1.out; omega
     case rel => exact ⟨(true), (wrap64 (x10_1 + 1)), ae, ae, H', ⟨by have := HK1.out; omega⟩, fwR HO_9, fwK BK326, fwK BK327, fwK BK328, ⟨bbl⟩⟩
    ·replace c10 := znf c10
     subst c10
     replace H := iF H
     by_cases c12 : 0 ≤ x10_1
     ·rw [if_pos c12] at H
      have c12b0 : decide (0 ≤ x10_1) = true := decide_eq_true c12
      clear c12
      have H' := Sd.mk H
      clear H
      obtain ⟨Ao13, co13, eo13⟩ := Kd.R_slice HO_9.out
      subst eo13
      have p332 : 0 ≤ (x10_1 : Int) := ode
      have q332 : x10_1 < (y329.length : Int) := ode
      obtain ⟨ad332, e332, hx332_0⟩ := Kd.at_string (Kd.R_reads' HO_9.out).2.2 x10_1 p332 q332
      cases e332
      replace p332 := eq_true p332
      replace q332 := eq_true q332
      go_wp2
      go_roundg k1
      case measure => have := HK1.out; omega
      case rel => exact ⟨(((rdOf ByteArray.empty y329 x10_1).toList == a0.toList)), (wrap64 (x10_1 + 1)), ae, ae, H', ⟨by have := HK1.out; omega⟩, fwR HO_9, fwK BK326, fwK BK327, fwK BK328, ⟨bbl⟩⟩
     ·rw [if_neg c12] at H
      exact absurd H (by simp)
   ·rw [if_neg c9] at H
    have c9b0 : decide (x10_1 < (y329.length : Int)) = false := decide_eq_false c9
    clear c9
    by_cases c14 : x8_1 = true
    ·subst c14
     replace H := iT H
     have HC15 := Sd.mk H
     clear H
     obtain ⟨Ao16, co16, eo16⟩ := Kd.R_slice HO_9.out
     subst eo16
     go_upto_region 9 with (fail)
     go_cut [38] (fun v38 wc => ∃ (kq : Nat) (x38_14 : Bool), v38 = .bool x38_14 ∧ Sd (r8_two.j1 kq a0 x38_14 a1_0 a1_1 a2_0 a2_1 = some (r1, r2, r3)) ∧ Sd (kq ≤ k1) ∧ Sd (wc.heap[gb326]? = some (.cells #[.int .i64 a1_0, .int .i64 a1_1] 25 (0, 0))) ∧ Sd (wc.heap[gb327]? = some (.cells #[.int .i64 a2_0, .int .i64 a2_1] 25 (0, 0))) ∧ Sd (wc.heap[gb328]? = some (.cells #[.int .i64 0, .int .i64 0] 25 (0, 0))) ∧ Sd (Below w.heap.size w wc))
     case first =>
      have H := HC15.out
      clear HC15
      by_cases c17 : a1_0 = 2
      ·rw [if_pos c17] at H
       have c17b0 := beq_iff_eq.mpr c17
       have c17b1 := bne_eq_false_iff_eq.mpr c17
       clear c17
       (first | rw [c17b0] | (simp only [i64_w, i32_w]; rw [c17b0]) | skip)
       have H' := Sd.mk H
       clear H
       have := NB326_327.out
       have := NB327_326.out
       have := NB326_328.out
       have := NB328_326.out
       obtain ⟨_, _, _, _⟩ := bz BK326
       go_wp2
       go_meet
       case rel => exact ⟨_, (true), ae, H', ⟨by have := HK1.out; first | omega | exact Nat.le_refl _⟩, fwK BK326, fwK BK327, fwK BK328, ⟨bbl⟩⟩
      ·rw [if_neg c17] at H
       have c17b0 := beq_eq_false_iff_ne.mpr c17
       have c17b1 := bne_iff_ne.mpr c17
       (first | rw [c17b0] | (simp only [i64_w, i32_w]; rw [c17b0]) | skip)
       have H' := Sd.mk H
       clear H
       have := NB326_327.out
       have := NB327_326.out
       have := NB326_328.out
       have := NB328_326.out
       obtain ⟨_, _, _, _⟩ := bz BK326
       have := NB327_328.out
       have := NB328_327.out
       obtain ⟨_, _, _, _⟩ := bz BK327
       go_wp2
       go_meet
       case rel => exact ⟨_, ((a2_0 == 2)), ae, H', ⟨by have := HK1.out; first | omega | exact Nat.le_refl _⟩, fwK BK326, fwK BK327, fwK BK328, ⟨bbl⟩⟩
     case rest =>
      clear HC15
      obtain ⟨kq, x38_14, rfl, HA, HJ14, BK326, BK327, BK328, HB⟩ := hcut
      cases kq with
      | zero => exact absurd HA.out (by simp [r8_two.j1])
      | succ kj14 =>
       have H := HA.out
       clear HA
       simp only [r8_two.j1] at H
       by_cases c26 : x38_14 = true
       ·subst c26
        replace H := iT H
        obtain ⟨⟨t333, t334⟩, A27, H⟩ := bnd H
        replace H : (some (t333, t334, true)) = some (r1, r2, r3) := H
        obtain ⟨rfl, rfl, rfl⟩ := zs3 H
        go_wp2_with (first | ((with_reducible refine gate_callee (f := 28) rfl ?_); refine goesL_ (some 39) rfl rfl Tryz.func28 (by kernel_rfl) rfl #[] rfl ma ?_; (with_reducible refine (r8_Null.calls  t333 t334 _ A27.out).mono ?_); rintro e w28 ⟨rfl, hb⟩; refine ⟨_, rfl, ?_⟩; replace BK326 := bkb BK326 hb; replace BK327 := bkb BK327 hb; replace BK328 := bkb BK328 hb; replace HB := bsq w hb; (try clear hb); have hnb29 := NB328_326.out; have hnc29 := NB326_328.out; have hnb30 := NB328_327.out; have hnc30 := NB327_328.out; have hcz31_0 := bz0 BK328; have hcz31_1 := bz1 BK328; have hfz31_0 := blk_frozen BK328.out 0; have hfz31_1 := blk_frozen BK328.out 1))
        refine bodyPost_ret (results_ct rfl _ _ gb328 25 #[.int .i64 t333, .int .i64 t334] (0, 0) _ rfl (by (repeat refine dw ?_); refine blk_put (cs := #[.int .i64 t333, .int .i64 0]) ?_ 1 _ rfl; (repeat refine dw ?_); refine blk_put (cs := #[.int .i64 0, .int .i64 0]) ?_ 0 _ rfl; (repeat refine dw ?_); exact BK328.out) Tryz.underlying25 rfl (by kernel_rfl)) rfl ?_
        exact ⟨fe, bbl⟩
       ·replace c26 := znf c26
        subst c26
        replace H := iF H
        have HC32 := Sd.mk H
        clear H
        go_upto_region 11 with (fail)
        go_cut [11] (fun v11 wc => ∃ (kq : Nat) (x11_31 : Bool), v11 = .bool x11_31 ∧ Sd (r8_two.j2 kq a0 x11_31 a1_0 a1_1 a2_0 a2_1 = some (r1, r2, r3)) ∧ Sd (kq ≤ kj14) ∧ Sd (wc.heap[gb326]? = some (.cells #[.int .i64 a1_0, .int .i64 a1_1] 25 (0, 0))) ∧ Sd (wc.heap[gb327]? = some (.cells #[.int .i64 a2_0, .int .i64 a2_1] 25 (0, 0))) ∧ Sd (wc.heap[gb328]? = some (.cells #[.int .i64 0, .int .i64 0] 25 (0, 0))) ∧ Sd (Below w.heap.size w wc))
        case first =>
         have H := HC32.out
         clear HC32
         by_cases c33 : a1_0 = 3
         ·rw [if_pos c33] at H
          have c33b0 := beq_iff_eq.mpr c33
          have c33b1 := bne_eq_false_iff_eq.mpr c33
          clear c33
          (first | rw [c33b0] | (simp only [i64_w, i32_w]; rw [c33b0]) | skip)
          have H' := Sd.mk H
          clear H
          have := NB326_327.out
          have := NB327_326.out
          have := NB326_328.out
          have := NB328_326.out
          obtain ⟨_, _, _, _⟩ := bz BK326
          go_wp2
          go_meet
          case rel => exact ⟨_, (true), ae, H', ⟨by have := HK1.out; have := HJ14.out; first | omega | exact Nat.le_refl _⟩, fwK BK326, fwK BK327, fwK BK328, ⟨bbl⟩⟩
         ·rw [if_neg c33] at H
          have c33b0 := beq_eq_false_iff_ne.mpr c33
          have c33b1 := bne_iff_ne.mpr c33
          (first | rw [c33b0] | (simp only [i64_w, i32_w]; rw [c33b0]) | skip)
          have H' := Sd.mk H
          clear H
          have := NB326_327.out
          have := NB327_326.out
          have := NB326_328.out
          have := NB328_326.out
          obtain ⟨_, _, _, _⟩ := bz BK326
          have := NB327_328.out
          have := NB328_327.out
          obtain ⟨_, _, _, _⟩ := bz BK327
          go_wp2
          go_meet
          case rel => exact ⟨_, ((a2_0 == 3)), ae, H', ⟨by have := HK1.out; have := HJ14.out; first | omega | exact Nat.le_refl _⟩, fwK BK326, fwK BK327, fwK BK328, ⟨bbl⟩⟩
        case rest =>
         clear HC32
         obtain ⟨kq, x11_31, rfl, HA, HJ31, BK326, BK327, BK328, HB⟩ := hcut
         cases kq with
         | zero => exact absurd HA.out (by simp [r8_two.j2])
         | succ kj31 =>
          have H := HA.out
          clear HA
          simp only [r8_two.j2] at H
          by_cases c42 : a0.toList = ([38, 38] : List UInt8)
          ·rw [if_pos c42] at H
           have c42b0 : (a0.toList == ([38, 38] : List UInt8)) = true := beq_iff_eq.mpr c42
           have c42b1 : (a0.toList != ([38, 38] : List UInt8)) = false := bne_eq_false_iff_eq.mpr c42
           clear c42
           obtain ⟨t335, A43, H⟩ := bnd H
           by_cases c44 : t335 = true
           ·subst c44
            replace H := iT H
            obtain ⟨t336, A45, H⟩ := bnd H
            obtain ⟨⟨t337, t338⟩, A46, H⟩ := bnd H
            replace H : (some (t337, t338, true)) = some (r1, r2, r3) := H
            obtain ⟨rfl, rfl, rfl⟩ := zs3 H
            have := NB326_327.out
            have := NB327_326.out
            have := NB326_328.out
            have := NB328_326.out
            obtain ⟨_, _, _, _⟩ := bz BK326
            go_wp2_with (first | ((with_reducible refine gate_callee (f := 65) rfl ?_); refine goesL_ (some 52) rfl rfl Tryz.func65 (by kernel_rfl) rfl #[.agg #[.int .i64 a1_0, .int .i64 a1_1]] rfl ma ?_; (with_reducible refine (r8_True.calls a1_0 a1_1 true _ A43.out).mono ?_); rintro e w50 ⟨rfl, hb⟩; refine ⟨_, rfl, ?_⟩; replace BK326 := bkb BK326 hb; replace BK327 := bkb BK327 hb; replace BK328 := bkb BK328 hb; replace HB := bsq w hb; (try clear hb); have hnb51 := NB327_328.out; have hnc51 := NB328_327.out; have hcz52_0 := bz0 BK327; have hcz52_1 := bz1 BK327; have hfz52_0 := blk_frozen BK327.out 0; have hfz52_1 := blk_frozen BK327.out 1) | (go_at_call 65; (with_reducible refine (r8_True.calls a2_0 a2_1 t336 _ A45.out).mono ?_); rintro e w53 ⟨rfl, hb⟩; replace BK326 := bkb BK326 hb; replace BK327 := bkb BK327 hb; replace BK328 := bkb BK328 hb; replace HB := bsq w hb; (try clear hb)) | ((with_reducible refine gate_callee (f := 95) rfl ?_); refine goesL_ (some 57) rfl rfl Tryz.func95 (by kernel_rfl) rfl #[.bool t336] rfl ma ?_; (with_reducible refine (r8_Truth.calls t336 t337 t338 _ A46.out).mono ?_); rintro e w54 ⟨rfl, hb⟩; refine ⟨_, rfl, ?_⟩; replace BK326 := bkb BK326 hb; replace BK327 := bkb BK327 hb; replace BK328 := bkb BK328 hb; replace HB := bsq w hb; (try clear hb); have hcz55_0 := bz0 BK328; have hcz55_1 := bz1 BK328; have hfz55_0 := blk_frozen BK328.out 0; have hfz55_1 := blk_frozen BK328.out 1))
            refine bodyPost_ret (results_ct rfl _ _ gb328 25 #[.int .i64 t337, .int .i64 t338] (0, 0) _ rfl (by (repeat refine dw ?_); refine blk_put (cs := #[.int .i64 t337, .int .i64 0]) ?_ 1 _ rfl; (repeat refine dw ?_); refine blk_put (cs := #[.int .i64 0, .int .i64 0]) ?_ 0 _ rfl; (repeat refine dw ?_); exact BK328.out) Tryz.underlying25 rfl (by kernel_rfl)) rfl ?_
            exact ⟨fe, bbl⟩
           ·replace c44 := znf c44
            subst c44
            replace H := iF H
            obtain ⟨⟨t339, t340⟩, A56, H⟩ := bnd H
            replace H : (some (t339, t340, true)) = some (r1, r2, r3) := H
            obtain ⟨rfl, rfl, rfl⟩ := zs3 H
            have := NB326_327.out
            have := NB327_326.out
            have := NB326_328.out
            have := NB328_326.out
            obtain ⟨_, _, _, _⟩ := bz BK326
            go_wp2_with (first | ((with_reducible refine gate_callee (f := 65) rfl ?_); refine goesL_ (some 52) rfl rfl Tryz.func65 (by kernel_rfl) rfl #[.agg #[.int .i64 a1_0, .int .i64 a1_1]] rfl ma ?_; (with_reducible refine (r8_True.calls a1_0 a1_1 false _ A43.out).mono ?_); rintro e w60 ⟨rfl, hb⟩; refine ⟨_, rfl, ?_⟩; replace BK326 := bkb BK326 hb; replace BK327 := bkb BK327 hb; replace BK328 := bkb BK328 hb; replace HB := bsq w hb; (try clear hb)) | ((with_reducible refine gate_callee (f := 95) rfl ?_); refine goesL_ (some 57) rfl rfl Tryz.func95 (by kernel_rfl) rfl #[.bool false] rfl ma ?_; (with_reducible refine (r8_Truth.calls false t339 t340 _ A56.out).mono ?_); rintro e w61 ⟨rfl, hb⟩; refine ⟨_, rfl, ?_⟩; replace BK326 := bkb BK326 hb; replace BK327 := bkb BK327 hb; replace BK328 := bkb BK328 hb; replace HB := bsq w hb; (try clear hb); have hnb62 := NB328_327.out; have hnc62 := NB327_328.out; have hcz63_0 := bz0 BK328; have hcz63_1 := bz1 BK328; have hfz63_0 := blk_frozen BK328.out 0; have hfz63_1 := blk_frozen BK328.out 1))
            refine bodyPost_ret (results_ct rfl _ _ gb328 25 #[.int .i64 t339, .int .i64 t340] (0, 0) _ rfl (by (repeat refine dw ?_); refine blk_put (cs := #[.int .i64 t339, .int .i64 0]) ?_ 1 _ rfl; (repeat refine dw ?_); refine blk_put (cs := #[.int .i64 0, .int .i64 0]) ?_ 0 _ rfl; (repeat refine dw ?_); exact BK328.out) Tryz.underlying25 rfl (by kernel_rfl)) rfl ?_
            exact ⟨fe, bbl⟩
          ·rw [if_neg c42] at H
           have c42b0 : (a0.toList == ([38, 38] : List UInt8)) = false := beq_eq_false_iff_ne.mpr c42
           have c42b1 : (a0.toList != ([38, 38] : List UInt8)) = true := bne_iff_ne.mpr c42
           by_cases c64 : a0.toList = ([124, 124] : List UInt8)
           ·rw [if_pos c64] at H
            have c64b0 : (a0.toList == ([124, 124] : List UInt8)) = true := beq_iff_eq.mpr c64
            have c64b1 : (a0.toList != ([124, 124] : List UInt8)) = false := bne_eq_false_iff_eq.mpr c64
            clear c64
            obtain ⟨t341, A65, H⟩ := bnd H
            by_cases c66 : t341 = true
            ·subst c66
             replace H := iT H
             obtain ⟨⟨t342, t343⟩, A67, H⟩ := bnd H
             replace H : (some (t342, t343, true)) = some (r1, r2, r3) := H
             obtain ⟨rfl, rfl, rfl⟩ := zs3 H
             have := NB326_327.out
             have := NB327_326.out
             have := NB326_328.out
             have := NB328_326.out
             obtain ⟨_, _, _, _⟩ := bz BK326
             go_wp2_with (first | ((with_reducible refine gate_callee (f := 65) rfl ?_); refine goesL_ (some 61) rfl rfl Tryz.func65 (by kernel_rfl) rfl #[.agg #[.int .i64 a1_0, .int .i64 a1_1]] rfl ma ?_; (with_reducible refine (r8_True.calls a1_0 a1_1 true _ A65.out).mono ?_); rintro e w71 ⟨rfl, hb⟩; refine ⟨_, rfl, ?_⟩; replace BK326 := bkb BK326 hb; replace BK327 := bkb BK327 hb; replace BK328 := bkb BK328 hb; replace HB := bsq w hb; (try clear hb)) | ((with_reducible refine gate_callee (f := 95) rfl ?_); refine goesL_ (some 66) rfl rfl Tryz.func95 (by kernel_rfl) rfl #[.bool true] rfl ma ?_; (with_reducible refine (r8_Truth.calls true t342 t343 _ A67.out).mono ?_); rintro e w72 ⟨rfl, hb⟩; refine ⟨_, rfl, ?_⟩; replace BK326 := bkb BK326 hb; replace BK327 := bkb BK327 hb; replace BK328 := bkb BK328 hb; replace HB := bsq w hb; (try clear hb); have hnb73 := NB328_327.out; have hnc73 := NB327_328.out; have hcz74_0 := bz0 BK328; have hcz74_1 := bz1 BK328; have hfz74_0 := blk_frozen BK328.out 0; have hfz74_1 := blk_frozen BK328.out 1))
             refine bodyPost_ret (results_ct rfl _ _ gb328 25 #[.int .i64 t342, .int .i64 t343] (0, 0) _ rfl (by (repeat refine dw ?_); refine blk_put (cs := #[.int .i64 t342, .int .i64 0]) ?_ 1 _ rfl; (repeat refine dw ?_); refine blk_put (cs := #[.int .i64 0, .int .i64 0]) ?_ 0 _ rfl; (repeat refine dw ?_); exact BK328.out) Tryz.underlying25 rfl (by kernel_rfl)) rfl ?_
             exact ⟨fe, bbl⟩
            ·replace c66 := znf c66
             subst c66
             replace H := iF H
             obtain ⟨t344, A75, H⟩ := bnd H
             obtain ⟨⟨t345, t346⟩, A76, H⟩ := bnd H
             replace H : (some (t345, t346, true)) = some (r1, r2, r3) := H
             obtain ⟨rfl, rfl, rfl⟩ := zs3 H
             have := NB326_327.out
             have := NB327_326.out
             have := NB326_328.out
             have := NB328_326.out
             obtain ⟨_, _, _, _⟩ := bz BK326
             go_wp2_with (first | ((with_reducible refine gate_callee (f := 65) rfl ?_); refine goesL_ (some 61) rfl rfl Tryz.func65 (by kernel_rfl) rfl #[.agg #[.int .i64 a1_0, .int .i64 a1_1]] rfl ma ?_; (with_reducible refine (r8_True.calls a1_0 a1_1 false _ A65.out).mono ?_); rintro e w80 ⟨rfl, hb⟩; refine ⟨_, rfl, ?_⟩; replace BK326 := bkb BK326 hb; replace BK327 := bkb BK327 hb; replace BK328 := bkb BK328 hb; replace HB := bsq w hb; (try clear hb); have hnb81 := NB327_328.out; have hnc81 := NB328_327.out; have hcz82_0 := bz0 BK327; have hcz82_1 := bz1 BK327; have hfz82_0 := blk_frozen BK327.out 0; have hfz82_1 := blk_frozen BK327.out 1) | (go_at_call 65; (with_reducible refine (r8_True.calls a2_0 a2_1 t344 _ A75.out).mono ?_); rintro e w83 ⟨rfl, hb⟩; replace BK326 := bkb BK326 hb; replace BK327 := bkb BK327 hb; replace BK328 := bkb BK328 hb; replace HB := bsq w hb; (try clear hb)) | ((with_reducible refine gate_callee (f := 95) rfl ?_); refine goesL_ (some 66) rfl rfl Tryz.func95 (by kernel_rfl) rfl #[.bool t344] rfl ma ?_; (with_reducible refine (r8_Truth.calls t344 t345 t346 _ A76.out).mono ?_); rintro e w84 ⟨rfl, hb⟩; refine ⟨_, rfl, ?_⟩; replace BK326 := bkb BK326 hb; replace BK327 := bkb BK327 hb; replace BK328 := bkb BK328 hb; replace HB := bsq w hb; (try clear hb); have hcz85_0 := bz0 BK328; have hcz85_1 := bz1 BK328; have hfz85_0 := blk_frozen BK328.out 0; have hfz85_1 := blk_frozen BK328.out 1))
             refine bodyPost_ret (results_ct rfl _ _ gb328 25 #[.int .i64 t345, .int .i64 t346] (0, 0) _ rfl (by (repeat refine dw ?_); refine blk_put (cs := #[.int .i64 t345, .int .i64 0]) ?_ 1 _ rfl; (repeat refine dw ?_); refine blk_put (cs := #[.int .i64 0, .int .i64 0]) ?_ 0 _ rfl; (repeat refine dw ?_); exact BK328.out) Tryz.underlying25 rfl (by kernel_rfl)) rfl ?_
             exact ⟨fe, bbl⟩
           ·rw [if_neg c64] at H
            have c64b0 : (a0.toList == ([124, 124] : List UInt8)) = false := beq_eq_false_iff_ne.mpr c64
            have c64b1 : (a0.toList != ([124, 124] : List UInt8)) = true := bne_iff_ne.mpr c64
            by_cases c86 : a0.toList = ([61, 61] : List UInt8)
            ·rw [if_pos c86] at H
             have c86b0 : (a0.toList == ([61, 61] : List UInt8)) = true := beq_iff_eq.mpr c86
             have c86b1 : (a0.toList != ([61, 61] : List UInt8)) = false := bne_eq_false_iff_eq.mpr c86
             clear c86
             by_cases c87 : x11_31 = true
             ·subst c87
              replace H := iT H
              obtain ⟨⟨t347, t348⟩, A88, H⟩ := bnd H
              replace H : (some (t347, t348, true)) = some (r1, r2, r3) := H
              obtain ⟨rfl, rfl, rfl⟩ := zs3 H
              go_wp2_with (first | ((with_reducible refine gate_callee (f := 95) rfl ?_); refine goesL_ (some 76) rfl rfl Tryz.func95 (by kernel_rfl) rfl #[.bool false] rfl ma ?_; (with_reducible refine (r8_Truth.calls false t347 t348 _ A88.out).mono ?_); rintro e w89 ⟨rfl, hb⟩; refine ⟨_, rfl, ?_⟩; replace BK326 := bkb BK326 hb; replace BK327 := bkb BK327 hb; replace BK328 := bkb BK328 hb; replace HB := bsq w hb; (try clear hb); have hnb90 := NB328_326.out; have hnc90 := NB326_328.out; have hnb91 := NB328_327.out; have hnc91 := NB327_328.out; have hcz92_0 := bz0 BK328; have hcz92_1 := bz1 BK328; have hfz92_0 := blk_frozen BK328.out 0; have hfz92_1 := blk_frozen BK328.out 1))
              refine bodyPost_ret (results_ct rfl _ _ gb328 25 #[.int .i64 t347, .int .i64 t348] (0, 0) _ rfl (by (repeat refine dw ?_); refine blk_put (cs := #[.int .i64 t347, .int .i64 0]) ?_ 1 _ rfl; (repeat refine dw ?_); refine blk_put (cs := #[.int .i64 0, .int .i64 0]) ?_ 0 _ rfl; (repeat refine dw ?_); exact BK328.out) Tryz.underlying25 rfl (by kernel_rfl)) rfl ?_
              exact ⟨fe, bbl⟩
             ·replace c87 := znf c87
              subst c87
              replace H := iF H
              obtain ⟨⟨t349, t350⟩, A93, H⟩ := bnd H
              replace H : (some (t349, t350, true)) = some (r1, r2, r3) := H
              obtain ⟨rfl, rfl, rfl⟩ := zs3 H
              have := NB326_327.out
              have := NB327_326.out
              have := NB326_328.out
              have := NB328_326.out
              obtain ⟨_, _, _, _⟩ := bz BK326
              have := NB327_328.out
              have := NB328_327.out
              obtain ⟨_, _, _, _⟩ := bz BK327
              go_wp2_with (first | ((with_reducible refine gate_callee (f := 95) rfl ?_); refine goesL_ (some 76) rfl rfl Tryz.func95 (by kernel_rfl) rfl #[.bool (a1_0 == a2_0 && (a1_1 == a2_1))] rfl ma ?_; (with_reducible refine (r8_Truth.calls (a1_0 == a2_0 && (a1_1 == a2_1)) t349 t350 _ A93.out).mono ?_); rintro e w99 ⟨rfl, hb⟩; refine ⟨_, rfl, ?_⟩; replace BK326 := bkb BK326 hb; replace BK327 := bkb BK327 hb; replace BK328 := bkb BK328 hb; replace HB := bsq w hb; (try clear hb); have hcz100_0 := bz0 BK328; have hcz100_1 := bz1 BK328; have hfz100_0 := blk_frozen BK328.out 0; have hfz100_1 := blk_frozen BK328.out 1))
              refine bodyPost_ret (results_ct rfl _ _ gb328 25 #[.int .i64 t349, .int .i64 t350] (0, 0) _ rfl (by (repeat refine dw ?_); refine blk_put (cs := #[.int .i64 t349, .int .i64 0]) ?_ 1 _ rfl; (repeat refine dw ?_); refine blk_put (cs := #[.int .i64 0, .int .i64 0]) ?_ 0 _ rfl; (repeat refine dw ?_); exact BK328.out) Tryz.underlying25 rfl (by kernel_rfl)) rfl ?_
              exact ⟨fe, bbl⟩
            ·rw [if_neg c86] at H
             have c86b0 : (a0.toList == ([61, 61] : List UInt8)) = false := beq_eq_false_iff_ne.mpr c86
             have c86b1 : (a0.toList != ([61, 61] : List UInt8)) = true := bne_iff_ne.mpr c86
             by_cases c101 : a0.toList = ([33, 61] : List UInt8)
             ·rw [if_pos c101] at H
              have c101b0 : (a0.toList == ([33, 61] : List UInt8)) = true := beq_iff_eq.mpr c101
              have c101b1 : (a0.toList != ([33, 61] : List UInt8)) = false := bne_eq_false_iff_eq.mpr c101
              clear c101
              by_cases c102 : x11_31 = true
              ·subst c102
               replace H := iT H
               obtain ⟨⟨t351, t352⟩, A103, H⟩ := bnd H
               replace H : (some (t351, t352, true)) = some (r1, r2, r3) := H
               obtain ⟨rfl, rfl, rfl⟩ := zs3 H
               go_wp2_with (first | ((with_reducible refine gate_callee (f := 95) rfl ?_); refine goesL_ (some 85) rfl rfl Tryz.func95 (by kernel_rfl) rfl #[.bool true] rfl ma ?_; (with_reducible refine (r8_Truth.calls true t351 t352 _ A103.out).mono ?_); rintro e w104 ⟨rfl, hb⟩; refine ⟨_, rfl, ?_⟩; replace BK326 := bkb BK326 hb; replace BK327 := bkb BK327 hb; replace BK328 := bkb BK328 hb; replace HB := bsq w hb; (try clear hb); have hnb105 := NB328_326.out; have hnc105 := NB326_328.out; have hnb106 := NB328_327.out; have hnc106 := NB327_328.out; have hcz107_0 := bz0 BK328; have hcz107_1 := bz1 BK328; have hfz107_0 := blk_frozen BK328.out 0; have hfz107_1 := blk_frozen BK328.out 1))
               refine bodyPost_ret (results_ct rfl _ _ gb328 25 #[.int .i64 t351, .int .i64 t352] (0, 0) _ rfl (by (repeat refine dw ?_); refine blk_put (cs := #[.int .i64 t351, .int .i64 0]) ?_ 1 _ rfl; (repeat refine dw ?_); refine blk_put (cs := #[.int .i64 0, .int .i64 0]) ?_ 0 _ rfl; (repeat refine dw ?_); exact BK328.out) Tryz.underlying25 rfl (by kernel_rfl)) rfl ?_
               exact ⟨fe, bbl⟩
              ·replace c102 := znf c102
               subst c102
               replace H := iF H
               obtain ⟨⟨t353, t354⟩, A108, H⟩ := bnd H
               replace H : (some (t353, t354, true)) = some (r1, r2, r3) := H
               obtain ⟨rfl, rfl, rfl⟩ := zs3 H
               have := NB326_327.out
               have := NB327_326.out
               have := NB326_328.out
               have := NB328_326.out
               obtain ⟨_, _, _, _⟩ := bz BK326
               have := NB327_328.out
               have := NB328_327.out
               obtain ⟨_, _, _, _⟩ := bz BK327
               go_wp2_with (first | ((with_reducible refine gate_callee (f := 95) rfl ?_); refine goesL_ (some 85) rfl rfl Tryz.func95 (by kernel_rfl) rfl #[.bool (!(a1_0 == a2_0) || (!(a1_1 == a2_1)))] rfl ma ?_; (with_reducible refine (r8_Truth.calls (!(a1_0 == a2_0) || (!(a1_1 == a2_1))) t353 t354 _ A108.out).mono ?_); rintro e w114 ⟨rfl, hb⟩; refine ⟨_, rfl, ?_⟩; replace BK326 := bkb BK326 hb; replace BK327 := bkb BK327 hb; replace BK328 := bkb BK328 hb; replace HB := bsq w hb; (try clear hb); have hcz115_0 := bz0 BK328; have hcz115_1 := bz1 BK328; have hfz115_0 := blk_frozen BK328.out 0; have hfz115_1 := blk_frozen BK328.out 1))
               refine bodyPost_ret (results_ct rfl _ _ gb328 25 #[.int .i64 t353, .int .i64 t354] (0, 0) _ rfl (by (repeat refine dw ?_); refine blk_put (cs := #[.int .i64 t353, .int .i64 0]) ?_ 1 _ rfl; (repeat refine dw ?_); refine blk_put (cs := #[.int .i64 0, .int .i64 0]) ?_ 0 _ rfl; (repeat refine dw ?_); exact BK328.out) Tryz.underlying25 rfl (by kernel_rfl)) rfl ?_
               exact ⟨fe, bbl⟩
             ·rw [if_neg c101] at H
              have c101b0 : (a0.toList == ([33, 61] : List UInt8)) = false := beq_eq_false_iff_ne.mpr c101
              have c101b1 : (a0.toList != ([33, 61] : List UInt8)) = true := bne_iff_ne.mpr c101
              by_cases c116 : a0.toList = ([60] : List UInt8)
              ·rw [if_pos c116] at H
               have c116b0 : (a0.toList == ([60] : List UInt8)) = true := beq_iff_eq.mpr c116
               have c116b1 : (a0.toList != ([60] : List UInt8)) = false := bne_eq_false_iff_eq.mpr c116
               clear c116
               by_cases c117 : x11_31 = true
               ·subst c117
                replace H := iT H
                obtain ⟨⟨t355, t356⟩, A118, H⟩ := bnd H
                replace H : (some (t355, t356, true)) = some (r1, r2, r3) := H
                obtain ⟨rfl, rfl, rfl⟩ := zs3 H
                go_wp2_with (first | ((with_reducible refine gate_callee (f := 95) rfl ?_); refine goesL_ (some 95) rfl rfl Tryz.func95 (by kernel_rfl) rfl #[.bool false] rfl ma ?_; (with_reducible refine (r8_Truth.calls false t355 t356 _ A118.out).mono ?_); rintro e w119 ⟨rfl, hb⟩; refine ⟨_, rfl, ?_⟩; replace BK326 := bkb BK326 hb; replace BK327 := bkb BK327 hb; replace BK328 := bkb BK328 hb; replace HB := bsq w hb; (try clear hb); have hnb120 := NB328_326.out; have hnc120 := NB326_328.out; have hnb121 := NB328_327.out; have hnc121 := NB327_328.out; have hcz122_0 := bz0 BK328; have hcz122_1 := bz1 BK328; have hfz122_0 := blk_frozen BK328.out 0; have hfz122_1 := blk_frozen BK328.out 1))
                refine bodyPost_ret (results_ct rfl _ _ gb328 25 #[.int .i64 t355, .int .i64 t356] (0, 0) _ rfl (by (repeat refine dw ?_); refine blk_put (cs := #[.int .i64 t355, .int .i64 0]) ?_ 1 _ rfl; (repeat refine dw ?_); refine blk_put (cs := #[.int .i64 0, .int .i64 0]) ?_ 0 _ rfl; (repeat refine dw ?_); exact BK328.out) Tryz.underlying25 rfl (by kernel_rfl)) rfl ?_
                exact ⟨fe, bbl⟩
               ·replace c117 := znf c117
                subst c117
                replace H := iF H
                obtain ⟨t357, A123, H⟩ := bnd H
                obtain ⟨⟨t358, t359⟩, A124, H⟩ := bnd H
                replace H : (some (t358, t359, true)) = some (r1, r2, r3) := H
                obtain ⟨rfl, rfl, rfl⟩ := zs3 H
                have := NB326_327.out
                have := NB327_326.out
                have := NB326_328.out
                have := NB328_326.out
                obtain ⟨_, _, _, _⟩ := bz BK326
                have := NB327_328.out
                have := NB328_327.out
                obtain ⟨_, _, _, _⟩ := bz BK327
                go_wp2_with (first | (go_at_call 48; (with_reducible refine (r8_Less.calls kj31 a1_0 a1_1 a2_0 a2_1 t357 _ A123.out).mono ?_); rintro e w130 ⟨rfl, hb⟩; replace BK326 := bkb BK326 hb; replace BK327 := bkb BK327 hb; replace BK328 := bkb BK328 hb; replace HB := bsq w hb; (try clear hb)) | ((with_reducible refine gate_callee (f := 95) rfl ?_); refine goesL_ (some 95) rfl rfl Tryz.func95 (by kernel_rfl) rfl #[.bool t357] rfl ma ?_; (with_reducible refine (r8_Truth.calls t357 t358 t359 _ A124.out).mono ?_); rintro e w131 ⟨rfl, hb⟩; refine ⟨_, rfl, ?_⟩; replace BK326 := bkb BK326 hb; replace BK327 := bkb BK327 hb; replace BK328 := bkb BK328 hb; replace HB := bsq w hb; (try clear hb); have hcz132_0 := bz0 BK328; have hcz132_1 := bz1 BK328; have hfz132_0 := blk_frozen BK328.out 0; have hfz132_1 := blk_frozen BK328.out 1))
                refine bodyPost_ret (results_ct rfl _ _ gb328 25 #[.int .i64 t358, .int .i64 t359] (0, 0) _ rfl (by (repeat refine dw ?_); refine blk_put (cs := #[.int .i64 t358, .int .i64 0]) ?_ 1 _ rfl; (repeat refine dw ?_); refine blk_put (cs := #[.int .i64 0, .int .i64 0]) ?_ 0 _ rfl; (repeat refine dw ?_); exact BK328.out) Tryz.underlying25 rfl (by kernel_rfl)) rfl ?_
                exact ⟨fe, bbl⟩
              ·rw [if_neg c116] at H
               have c116b0 : (a0.toList == ([60] : List UInt8)) = false := beq_eq_false_iff_ne.mpr c116
               have c116b1 : (a0.toList != ([60] : List UInt8)) = true := bne_iff_ne.mpr c116
               by_cases c133 : a0.toList = ([60, 61] : List UInt8)
               ·rw [if_pos c133] at H
                have c133b0 : (a0.toList == ([60, 61] : List UInt8)) = true := beq_iff_eq.mpr c133
                have c133b1 : (a0.toList != ([60, 61] : List UInt8)) = false := bne_eq_false_iff_eq.mpr c133
                clear c133
                by_cases c134 : x11_31 = true
                ·subst c134
                 replace H := iT H
                 obtain ⟨⟨t360, t361⟩, A135, H⟩ := bnd H
                 replace H : (some (t360, t361, true)) = some (r1, r2, r3) := H
                 obtain ⟨rfl, rfl, rfl⟩ := zs3 H
                 go_wp2_with (first | ((with_reducible refine gate_callee (f := 95) rfl ?_); refine goesL_ (some 106) rfl rfl Tryz.func95 (by kernel_rfl) rfl #[.bool false] rfl ma ?_; (with_reducible refine (r8_Truth.calls false t360 t361 _ A135.out).mono ?_); rintro e w136 ⟨rfl, hb⟩; refine ⟨_, rfl, ?_⟩; replace BK326 := bkb BK326 hb; replace BK327 := bkb BK327 hb; replace BK328 := bkb BK328 hb; replace HB := bsq w hb; (try clear hb); have hnb137 := NB328_326.out; have hnc137 := NB326_328.out; have hnb138 := NB328_327.out; have hnc138 := NB327_328.out; have hcz139_0 := bz0 BK328; have hcz139_1 := bz1 BK328; have hfz139_0 := blk_frozen BK328.out 0; have hfz139_1 := blk_frozen BK328.out 1))
                 refine bodyPost_ret (results_ct rfl _ _ gb328 25 #[.int .i64 t360, .int .i64 t361] (0, 0) _ rfl (by (repeat refine dw ?_); refine blk_put (cs := #[.int .i64 t360, .int .i64 0]) ?_ 1 _ rfl; (repeat refine dw ?_); refine blk_put (cs := #[.int .i64 0, .int .i64 0]) ?_ 0 _ rfl; (repeat refine dw ?_); exact BK328.out) Tryz.underlying25 rfl (by kernel_rfl)) rfl ?_
                 exact ⟨fe, bbl⟩
                ·replace c134 := znf c134
                 subst c134
                 replace H := iF H
                 obtain ⟨t362, A140, H⟩ := bnd H
                 obtain ⟨⟨t363, t364⟩, A141, H⟩ := bnd H
                 replace H : (some (t363, t364, true)) = some (r1, r2, r3) := H
                 obtain ⟨rfl, rfl, rfl⟩ := zs3 H
                 have := NB327_326.out
                 have := NB326_327.out
                 have := NB327_328.out
                 have := NB328_327.out
                 obtain ⟨_, _, _, _⟩ := bz BK327
                 have := NB326_328.out
                 have := NB328_326.out
                 obtain ⟨_, _, _, _⟩ := bz BK326
                 go_wp2_with (first | (go_at_call 48; (with_reducible refine (r8_Less.calls kj31 a2_0 a2_1 a1_0 a1_1 t362 _ A140.out).mono ?_); rintro e w147 ⟨rfl, hb⟩; replace BK326 := bkb BK326 hb; replace BK327 := bkb BK327 hb; replace BK328 := bkb BK328 hb; replace HB := bsq w hb; (try clear hb)) | ((with_reducible refine gate_callee (f := 95) rfl ?_); refine goesL_ (some 106) rfl rfl Tryz.func95 (by kernel_rfl) rfl #[.bool (!t362)] rfl ma ?_; (with_reducible refine (r8_Truth.calls (!t362) t363 t364 _ A141.out).mono ?_); rintro e w148 ⟨rfl, hb⟩; refine ⟨_, rfl, ?_⟩; replace BK326 := bkb BK326 hb; replace BK327 := bkb BK327 hb; replace BK328 := bkb BK328 hb; replace HB := bsq w hb; (try clear hb); have hcz149_0 := bz0 BK328; have hcz149_1 := bz1 BK328; have hfz149_0 := blk_frozen BK328.out 0; have hfz149_1 := blk_frozen BK328.out 1))
                 refine bodyPost_ret (results_ct rfl _ _ gb328 25 #[.int .i64 t363, .int .i64 t364] (0, 0) _ rfl (by (repeat refine dw ?_); refine blk_put (cs := #[.int .i64 t363, .int .i64 0]) ?_ 1 _ rfl; (repeat refine dw ?_); refine blk_put (cs := #[.int .i64 0, .int .i64 0]) ?_ 0 _ rfl; (repeat refine dw ?_); exact BK328.out) Tryz.underlying25 rfl (by kernel_rfl)) rfl ?_
                 exact ⟨fe, bbl⟩
               ·rw [if_neg c133] at H
                have c133b0 : (a0.toList == ([60, 61] : List UInt8)) = false := beq_eq_false_iff_ne.mpr c133
                have c133b1 : (a0.toList != ([60, 61] : List UInt8)) = true := bne_iff_ne.mpr c133
                by_cases c150 : a0.toList = ([62] : List UInt8)
                ·rw [if_pos c150] at H
                 have c150b0 : (a0.toList == ([62] : List UInt8)) = true := beq_iff_eq.mpr c150
                 have c150b1 : (a0.toList != ([62] : List UInt8)) = false := bne_eq_false_iff_eq.mpr c150
                 clear c150
                 by_cases c151 : x11_31 = true
                 ·subst c151
                  replace H := iT H
                  obtain ⟨⟨t365, t366⟩, A152, H⟩ := bnd H
                  replace H : (some (t365, t366, true)) = some (r1, r2, r3) := H
                  obtain ⟨rfl, rfl, rfl⟩ := zs3 H
                  go_wp2_with (first | ((with_reducible refine gate_callee (f := 95) rfl ?_); refine goesL_ (some 116) rfl rfl Tryz.func95 (by kernel_rfl) rfl #[.bool false] rfl ma ?_; (with_reducible refine (r8_Truth.calls false t365 t366 _ A152.out).mono ?_); rintro e w153 ⟨rfl, hb⟩; refine ⟨_, rfl, ?_⟩; replace BK326 := bkb BK326 hb; replace BK327 := bkb BK327 hb; replace BK328 := bkb BK328 hb; replace HB := bsq w hb; (try clear hb); have hnb154 := NB328_326.out; have hnc154 := NB326_328.out; have hnb155 := NB328_327.out; have hnc155 := NB327_328.out; have hcz156_0 := bz0 BK328; have hcz156_1 := bz1 BK328; have hfz156_0 := blk_frozen BK328.out 0; have hfz156_1 := blk_frozen BK328.out 1))
                  refine bodyPost_ret (results_ct rfl _ _ gb328 25 #[.int .i64 t365, .int .i64 t366] (0, 0) _ rfl (by (repeat refine dw ?_); refine blk_put (cs := #[.int .i64 t365, .int .i64 0]) ?_ 1 _ rfl; (repeat refine dw ?_); refine blk_put (cs := #[.int .i64 0, .int .i64 0]) ?_ 0 _ rfl; (repeat refine dw ?_); exact BK328.out) Tryz.underlying25 rfl (by kernel_rfl)) rfl ?_
                  exact ⟨fe, bbl⟩
                 ·replace c151 := znf c151
                  subst c151
                  replace H := iF H
                  obtain ⟨t367, A157, H⟩ := bnd H
                  obtain ⟨⟨t368, t369⟩, A158, H⟩ := bnd H
                  replace H : (some (t368, t369, true)) = some (r1, r2, r3) := H
                  obtain ⟨rfl, rfl, rfl⟩ := zs3 H
                  have := NB327_326.out
                  have := NB326_327.out
                  have := NB327_328.out
                  have := NB328_327.out
                  obtain ⟨_, _, _, _⟩ := bz BK327
                  have := NB326_328.out
                  have := NB328_326.out
                  obtain ⟨_, _, _, _⟩ := bz BK326
                  go_wp2_with (first | (go_at_call 48; (with_reducible refine (r8_Less.calls kj31 a2_0 a2_1 a1_0 a1_1 t367 _ A157.out).mono ?_); rintro e w164 ⟨rfl, hb⟩; replace BK326 := bkb BK326 hb; replace BK327 := bkb BK327 hb; replace BK328 := bkb BK328 hb; replace HB := bsq w hb; (try clear hb)) | ((with_reducible refine gate_callee (f := 95) rfl ?_); refine goesL_ (some 116) rfl rfl Tryz.func95 (by kernel_rfl) rfl #[.bool t367] rfl ma ?_; (with_reducible refine (r8_Truth.calls t367 t368 t369 _ A158.out).mono ?_); rintro e w165 ⟨rfl, hb⟩; refine ⟨_, rfl, ?_⟩; replace BK326 := bkb BK326 hb; replace BK327 := bkb BK327 hb; replace BK328 := bkb BK328 hb; replace HB := bsq w hb; (try clear hb); have hcz166_0 := bz0 BK328; have hcz166_1 := bz1 BK328; have hfz166_0 := blk_frozen BK328.out 0; have hfz166_1 := blk_frozen BK328.out 1))
                  refine bodyPost_ret (results_ct rfl _ _ gb328 25 #[.int .i64 t368, .int .i64 t369] (0, 0) _ rfl (by (repeat refine dw ?_); refine blk_put (cs := #[.int .i64 t368, .int .i64 0]) ?_ 1 _ rfl; (repeat refine dw ?_); refine blk_put (cs := #[.int .i64 0, .int .i64 0]) ?_ 0 _ rfl; (repeat refine dw ?_); exact BK328.out) Tryz.underlying25 rfl (by kernel_rfl)) rfl ?_
                  exact ⟨fe, bbl⟩
                ·rw [if_neg c150] at H
                 have c150b0 : (a0.toList == ([62] : List UInt8)) = false := beq_eq_false_iff_ne.mpr c150
                 have c150b1 : (a0.toList != ([62] : List UInt8)) = true := bne_iff_ne.mpr c150
                 by_cases c167 : a0.toList = ([62, 61] : List UInt8)
                 ·rw [if_pos c167] at H
                  have c167b0 : (a0.toList == ([62, 61] : List UInt8)) = true := beq_iff_eq.mpr c167
                  have c167b1 : (a0.toList != ([62, 61] : List UInt8)) = false := bne_eq_false_iff_eq.mpr c167
                  clear c167
                  by_cases c168 : x11_31 = true
                  ·subst c168
                   replace H := iT H
                   obtain ⟨⟨t370, t371⟩, A169, H⟩ := bnd H
                   replace H : (some (t370, t371, true)) = some (r1, r2, r3) := H
                   obtain ⟨rfl, rfl, rfl⟩ := zs3 H
                   go_wp2_with (first | ((with_reducible refine gate_callee (f := 95) rfl ?_); refine goesL_ (some 127) rfl rfl Tryz.func95 (by kernel_rfl) rfl #[.bool false] rfl ma ?_; (with_reducible refine (r8_Truth.calls false t370 t371 _ A169.out).mono ?_); rintro e w170 ⟨rfl, hb⟩; refine ⟨_, rfl, ?_⟩; replace BK326 := bkb BK326 hb; replace BK327 := bkb BK327 hb; replace BK328 := bkb BK328 hb; replace HB := bsq w hb; (try clear hb); have hnb171 := NB328_326.out; have hnc171 := NB326_328.out; have hnb172 := NB328_327.out; have hnc172 := NB327_328.out; have hcz173_0 := bz0 BK328; have hcz173_1 := bz1 BK328; have hfz173_0 := blk_frozen BK328.out 0; have hfz173_1 := blk_frozen BK328.out 1))
                   refine bodyPost_ret (results_ct rfl _ _ gb328 25 #[.int .i64 t370, .int .i64 t371] (0, 0) _ rfl (by (repeat refine dw ?_); refine blk_put (cs := #[.int .i64 t370, .int .i64 0]) ?_ 1 _ rfl; (repeat refine dw ?_); refine blk_put (cs := #[.int .i64 0, .int .i64 0]) ?_ 0 _ rfl; (repeat refine dw ?_); exact BK328.out) Tryz.underlying25 rfl (by kernel_rfl)) rfl ?_
                   exact ⟨fe, bbl⟩
                  ·replace c168 := znf c168
                   subst c168
                   replace H := iF H
                   obtain ⟨t372, A174, H⟩ := bnd H
                   obtain ⟨⟨t373, t374⟩, A175, H⟩ := bnd H
                   replace H : (some (t373, t374, true)) = some (r1, r2, r3) := H
                   obtain ⟨rfl, rfl, rfl⟩ := zs3 H
                   have := NB326_327.out
                   have := NB327_326.out
                   have := NB326_328.out
                   have := NB328_326.out
                   obtain ⟨_, _, _, _⟩ := bz BK326
                   have := NB327_328.out
                   have := NB328_327.out
                   obtain ⟨_, _, _, _⟩ := bz BK327
                   go_wp2_with (first | (go_at_call 48; (with_reducible refine (r8_Less.calls kj31 a1_0 a1_1 a2_0 a2_1 t372 _ A174.out).mono ?_); rintro e w181 ⟨rfl, hb⟩; replace BK326 := bkb BK326 hb; replace BK327 := bkb BK327 hb; replace BK328 := bkb BK328 hb; replace HB := bsq w hb; (try clear hb)) | ((with_reducible refine gate_callee (f := 95) rfl ?_); refine goesL_ (some 127) rfl rfl Tryz.func95 (by kernel_rfl) rfl #[.bool (!t372)] rfl ma ?_; (with_reducible refine (r8_Truth.calls (!t372) t373 t374 _ A175.out).mono ?_); rintro e w182 ⟨rfl, hb⟩; refine ⟨_, rfl, ?_⟩; replace BK326 := bkb BK326 hb; replace BK327 := bkb BK327 hb; replace BK328 := bkb BK328 hb; replace HB := bsq w hb; (try clear hb); have hcz183_0 := bz0 BK328; have hcz183_1 := bz1 BK328; have hfz183_0 := blk_frozen BK328.out 0; have hfz183_1 := blk_frozen BK328.out 1))
                   refine bodyPost_ret (results_ct rfl _ _ gb328 25 #[.int .i64 t373, .int .i64 t374] (0, 0) _ rfl (by (repeat refine dw ?_); refine blk_put (cs := #[.int .i64 t373, .int .i64 0]) ?_ 1 _ rfl; (repeat refine dw ?_); refine blk_put (cs := #[.int .i64 0, .int .i64 0]) ?_ 0 _ rfl; (repeat refine dw ?_); exact BK328.out) Tryz.underlying25 rfl (by kernel_rfl)) rfl ?_
                   exact ⟨fe, bbl⟩
                 ·rw [if_neg c167] at H
                  have c167b0 : (a0.toList == ([62, 61] : List UInt8)) = false := beq_eq_false_iff_ne.mpr c167
                  have c167b1 : (a0.toList != ([62, 61] : List UInt8)) = true := bne_iff_ne.mpr c167
                  by_cases c184 : x11_31 = true
                  ·subst c184
                   replace H := iT H
                   obtain ⟨⟨t375, t376⟩, A185, H⟩ := bnd H
                   replace H : (some (t375, t376, true)) = some (r1, r2, r3) := H
                   obtain ⟨rfl, rfl, rfl⟩ := zs3 H
                   go_wp2_with (first | ((with_reducible refine gate_callee (f := 29) rfl ?_); refine goesL_ (some 129) rfl rfl Tryz.func29 (by kernel_rfl) rfl #[] rfl ma ?_; (with_reducible refine (r8_NaN.calls  t375 t376 _ A185.out).mono ?_); rintro e w186 ⟨rfl, hb⟩; refine ⟨_, rfl, ?_⟩; replace BK326 := bkb BK326 hb; replace BK327 := bkb BK327 hb; replace BK328 := bkb BK328 hb; replace HB := bsq w hb; (try clear hb); have hnb187 := NB328_326.out; have hnc187 := NB326_328.out; have hnb188 := NB328_327.out; have hnc188 := NB327_328.out; have hcz189_0 := bz0 BK328; have hcz189_1 := bz1 BK328; have hfz189_0 := blk_frozen BK328.out 0; have hfz189_1 := blk_frozen BK328.out 1))
                   refine bodyPost_ret (results_ct rfl _ _ gb328 25 #[.int .i64 t375, .int .i64 t376] (0, 0) _ rfl (by (repeat refine dw ?_); refine blk_put (cs := #[.int .i64 t375, .int .i64 0]) ?_ 1 _ rfl; (repeat refine dw ?_); refine blk_put (cs := #[.int .i64 0, .int .i64 0]) ?_ 0 _ rfl; (repeat refine dw ?_); exact BK328.out) Tryz.underlying25 rfl (by kernel_rfl)) rfl ?_
                   exact ⟨fe, bbl⟩
                  ·replace c184 := znf c184
                   subst c184
                   replace H := iF H
                   by_cases c190 : a0.toList = ([43] : List UInt8)
                   ·rw [if_pos c190] at H
                    have c190b0 : (a0.toList == ([43] : List UInt8)) = true := beq_iff_eq.mpr c190
                    have c190b1 : (a0.toList != ([43] : List UInt8)) = false := bne_eq_false_iff_eq.mpr c190
                    clear c190
                    obtain ⟨⟨t377, t378⟩, A191, H⟩ := bnd H
                    replace H : (some (t377, t378, true)) = some (r1, r2, r3) := H
                    obtain ⟨rfl, rfl, rfl⟩ := zs3 H
                    have := NB326_327.out
                    have := NB327_326.out
                    have := NB326_328.out
                    have := NB328_326.out
                    obtain ⟨_, _, _, _⟩ := bz BK326
                    have := NB327_328.out
                    have := NB328_327.out
                    obtain ⟨_, _, _, _⟩ := bz BK327
                    go_wp2_with (first | ((with_reducible refine gate_callee (f := 98) rfl ?_); refine goesL_ (some 135) rfl rfl Tryz.func98 (by kernel_rfl) rfl #[.agg #[.int .i64 a1_0, .int .i64 a1_1], .agg #[.int .i64 a2_0, .int .i64 a2_1]] rfl ma ?_; (with_reducible refine (r8_add.calls kj31 a1_0 a1_1 a2_0 a2_1 t377 t378 _ A191.out).mono ?_); rintro e w197 ⟨rfl, hb⟩; refine ⟨_, rfl, ?_⟩; replace BK326 := bkb BK326 hb; replace BK327 := bkb BK327 hb; replace BK328 := bkb BK328 hb; replace HB := bsq w hb; (try clear hb); have hcz198_0 := bz0 BK328; have hcz198_1 := bz1 BK328; have hfz198_0 := blk_frozen BK328.out 0; have hfz198_1 := blk_frozen BK328.out 1))
                    refine bodyPost_ret (results_ct rfl _ _ gb328 25 #[.int .i64 t377, .int .i64 t378] (0, 0) _ rfl (by (repeat refine dw ?_); refine blk_put (cs := #[.int .i64 t377, .int .i64 0]) ?_ 1 _ rfl; (repeat refine dw ?_); refine blk_put (cs := #[.int .i64 0, .int .i64 0]) ?_ 0 _ rfl; (repeat refine dw ?_); exact BK328.out) Tryz.underlying25 rfl (by kernel_rfl)) rfl ?_
                    exact ⟨fe, bbl⟩
                   ·rw [if_neg c190] at H
                    have c190b0 : (a0.toList == ([43] : List UInt8)) = false := beq_eq_false_iff_ne.mpr c190
                    have c190b1 : (a0.toList != ([43] : List UInt8)) = true := bne_iff_ne.mpr c190
                    by_cases c199 : a0.toList = ([45] : List UInt8)
                    ·rw [if_pos c199] at H
                     have c199b0 : (a0.toList == ([45] : List UInt8)) = true := beq_iff_eq.mpr c199
                     have c199b1 : (a0.toList != ([45] : List UInt8)) = false := bne_eq_false_iff_eq.mpr c199
                     clear c199
                     obtain ⟨⟨t379, t380⟩, A200, H⟩ := bnd H
                     replace H : ((r8_add.f kj31 a1_0 a1_1 t379 t380).bind fun bt381 => (some (bt381.1, bt381.2, true))) = some (r1, r2, r3) := H
                     obtain ⟨⟨t381, t382⟩, A201, H⟩ := bnd H
                     replace H : (some (t381, t382, true)) = some (r1, r2, r3) := H
                     obtain ⟨rfl, rfl, rfl⟩ := zs3 H
                     try go_wp2
                     replace BK326 := Sd.mk (blk_drew BK326.out)
                     replace BK327 := Sd.mk (blk_drew BK327.out)
                     replace BK328 := Sd.mk (blk_drew BK328.out)
                     replace HB := Sd.mk (bd1 HB.out)
                     refine start_ (n := 6) (S := fun w' => w'.cell? ⟨gb326, 0, none⟩ = some (.int .i64 a1_0) ∧ w'.cell? ⟨gb326, 1, none⟩ = some (.int .i64 a1_1) ∧ w'.cell? ⟨gb327, 0, none⟩ = some (.int .i64 a2_0) ∧ w'.cell? ⟨gb327, 1, none⟩ = some (.int .i64 a2_1)) (ds := []) #[false, false, false, false, false, false] (by kernel_rfl) rfl rfl ⟨(blk_cell BK326.out 0).trans rfl, (blk_cell BK326.out 1).trans rfl, (blk_cell BK327.out 0).trans rfl, (blk_cell BK327.out 1).trans rfl⟩ (fun hHeld => ?_)
                     generalize wc.drew = w202 at BK326 BK327 BK328 HB hHeld ⊢
                     refine take_ (i := 0) (N := some 138) (v := ?_) (a' := ?_) #[true, false, false, false, false, false] rfl rfl (by kernel_rfl) (fun _ _ _ h => h) (Or.inl ⟨by rfl, ?_⟩) hHeld ?_ ?_
                     rotate_left
                     ·rintro w' ⟨s0, s1, s2, s3⟩
                      go_simp
                      with_reducible rfl
                     rotate_left
                     ·simp only [zpz]
                      rfl
                     refine take_ (i := 1) (N := some 139) (v := ?_) (a' := ?_) #[true, true, false, false, false, false] rfl rfl (by kernel_rfl) (fun _ _ _ h => h) (Or.inl ⟨by rfl, ?_⟩) hHeld ?_ ?_
                     rotate_left
                     ·rintro w' ⟨s0, s1, s2, s3⟩
                      go_simp
                      with_reducible rfl
                     rotate_left
                     ·simp only [zpz]
                      rfl
                     refine one_ (i := 2) (N := some 140) #[true, true, true, false, false, false] rfl rfl (by kernel_rfl) (by decide) (fun K hK => ?_)
                     refine goes_ Tryz.func97 (by kernel_rfl) rfl #[.agg #[.int .i64 a2_0, .int .i64 a2_1]] (by rfl) rfl rfl ma ?_
                     with_reducible refine (r8_turned.calls a2_0 a2_1 t379 t380 _ A200.out).mono ?_
                     rintro e w203 ⟨rfl, hb⟩
                     refine ⟨_, rfl, ?_⟩
                     replace BK326 := bkb BK326 hb
                     replace BK327 := bkb BK327 hb
                     replace BK328 := bkb BK328 hb
                     replace HB := bsq w hb
                     (try clear hb)
                     refine hK.out _ _ ⟨(blk_cell BK326.out 0).trans rfl, (blk_cell BK326.out 1).trans rfl, (blk_cell BK327.out 0).trans rfl, (blk_cell BK327.out 1).trans rfl⟩ (fun hHeld => ?_)
                     clear hK K
                     refine norm_ (a' := ?_) ?_ ?_
                     rotate_left
                     ·show Act.put _ (some 140) _ = _
                      simp only [zpz]
                      rfl
                     refine one_ (i := 3) (N := some 141) #[true, true, true, true, false, false] rfl rfl (by kernel_rfl) (by decide) (fun K hK => ?_)
                     refine goes_ Tryz.func98 (by kernel_rfl) rfl #[.agg #[.int .i64 a1_0, .int .i64 a1_1], .agg #[.int .i64 t379, .int .i64 t380]] (by rfl) rfl rfl ma ?_
                     with_reducible refine (r8_add.calls kj31 a1_0 a1_1 t379 t380 t381 t382 _ A201.out).mono ?_
                     rintro e w204 ⟨rfl, hb⟩
                     refine ⟨_, rfl, ?_⟩
                     replace BK326 := bkb BK326 hb
                     replace BK327 := bkb BK327 hb
                     replace BK328 := bkb BK328 hb
                     replace HB := bsq w hb
                     (try clear hb)
                     refine hK.out _ _ ⟨(blk_cell BK326.out 0).trans rfl, (blk_cell BK326.out 1).trans rfl, (blk_cell BK327.out 0).trans rfl, (blk_cell BK327.out 1).trans rfl⟩ (fun hHeld => ?_)
                     clear hK K
                     refine norm_ (a' := ?_) ?_ ?_
                     rotate_left
                     ·show Act.put _ (some 141) _ = _
                      simp only [zpz]
                      rfl
                     refine one_ (i := 4) (N := none) #[true, true, true, true, true, false] rfl rfl (by kernel_rfl) (by decide) (fun K hK => ?_)
                     have hs205 : w204.cell? ⟨gb328, 0, none⟩ = some (.int .i64 0) := (blk_cell BK328.out 0).trans rfl
                     have hfs205 := blk_frozen BK328.out 0
                     have hns205_0 := NB326_328.out
                     have hns205_1 := NB327_328.out
                     have hms205_0 := NB328_326.out
                     have hms205_1 := NB328_327.out
                     have hs206 : w204.cell? ⟨gb328, 1, none⟩ = some (.int .i64 0) := (blk_cell BK328.out 1).trans rfl
                     have hfs206 := blk_frozen BK328.out 1
                     have hns206_0 := NB326_328.out
                     have hns206_1 := NB327_328.out
                     have hms206_0 := NB328_326.out
                     have hms206_1 := NB328_327.out
                     refine skip_ (w1 := ?_) (by rfl) rfl ?_ ?_
                     rotate_left
                     ·go_simp
                      rfl
                     refine hK.out _ _ ⟨((cell_far (p := ⟨gb328, _, none⟩) NB326_328.out _).trans (((cell_far (p := ⟨gb328, _, none⟩) NB326_328.out _).trans (hHeld.1)))), ((cell_far (p := ⟨gb328, _, none⟩) NB326_328.out _).trans (((cell_far (p := ⟨gb328, _, none⟩) NB326_328.out _).trans (hHeld.2.1)))), ((cell_far (p := ⟨gb328, _, none⟩) NB327_328.out _).trans (((cell_far (p := ⟨gb328, _, none⟩) NB327_328.out _).trans (hHeld.2.2.1)))), ((cell_far (p := ⟨gb328, _, none⟩) NB327_328.out _).trans (((cell_far (p := ⟨gb328, _, none⟩) NB327_328.out _).trans (hHeld.2.2.2))))⟩ (fun hHeld => ?_)
                     clear hK K
                     refine pure_ (i := 5) (N := some 7) (v := ?_) (a' := ?_) #[true, true, true, true, true, true] rfl rfl (by kernel_rfl) (fun _ _ _ h => h) (Or.inl ⟨by rfl, ?_⟩) ?_ ?_
                     rotate_left
                     ·intro w'
                      go_simp
                      with_reducible rfl
                     rotate_left
                     ·simp only [zpz]
                      rfl
                     refine done_ (by kernel_rfl) ?_
                     try go_wp2
                     refine bodyPost_ret (results_ct rfl _ _ gb328 25 #[.int .i64 t381, .int .i64 t382] (0, 0) _ rfl (by (repeat refine dw ?_); refine blk_put (cs := #[.int .i64 t381, .int .i64 0]) ?_ 1 _ rfl; (repeat refine dw ?_); refine blk_put (cs := #[.int .i64 0, .int .i64 0]) ?_ 0 _ rfl; (repeat refine dw ?_); exact BK328.out) Tryz.underlying25 rfl (by kernel_rfl)) rfl ?_
                     exact ⟨fe, bbl⟩
                    ·rw [if_neg c199] at H
                     have c199b0 : (a0.toList == ([45] : List UInt8)) = false := beq_eq_false_iff_ne.mpr c199
                     have c199b1 : (a0.toList != ([45] : List UInt8)) = true := bne_iff_ne.mpr c199
                     by_cases c207 : a0.toList = ([42] : List UInt8)
                     ·rw [if_pos c207] at H
                      have c207b0 : (a0.toList == ([42] : List UInt8)) = true := beq_iff_eq.mpr c207
                      have c207b1 : (a0.toList != ([42] : List UInt8)) = false := bne_eq_false_iff_eq.mpr c207
                      clear c207
                      obtain ⟨⟨t383, t384⟩, A208, H⟩ := bnd H
                      replace H : (some (t383, t384, true)) = some (r1, r2, r3) := H
                      obtain ⟨rfl, rfl, rfl⟩ := zs3 H
                      have := NB326_327.out
                      have := NB327_326.out
                      have := NB326_328.out
                      have := NB328_326.out
                      obtain ⟨_, _, _, _⟩ := bz BK326
                      have := NB327_328.out
                      have := NB328_327.out
                      obtain ⟨_, _, _, _⟩ := bz BK327
                      go_wp2_with (first | ((with_reducible refine gate_callee (f := 99) rfl ?_); refine goesL_ (some 146) rfl rfl Tryz.func99 (by kernel_rfl) rfl #[.agg #[.int .i64 a1_0, .int .i64 a1_1], .agg #[.int .i64 a2_0, .int .i64 a2_1]] rfl ma ?_; (with_reducible refine (r8_times.calls kj31 a1_0 a1_1 a2_0 a2_1 t383 t384 _ A208.out).mono ?_); rintro e w214 ⟨rfl, hb⟩; refine ⟨_, rfl, ?_⟩; replace BK326 := bkb BK326 hb; replace BK327 := bkb BK327 hb; replace BK328 := bkb BK328 hb; replace HB := bsq w hb; (try clear hb); have hcz215_0 := bz0 BK328; have hcz215_1 := bz1 BK328; have hfz215_0 := blk_frozen BK328.out 0; have hfz215_1 := blk_frozen BK328.out 1))
                      refine bodyPost_ret (results_ct rfl _ _ gb328 25 #[.int .i64 t383, .int .i64 t384] (0, 0) _ rfl (by (repeat refine dw ?_); refine blk_put (cs := #[.int .i64 t383, .int .i64 0]) ?_ 1 _ rfl; (repeat refine dw ?_); refine blk_put (cs := #[.int .i64 0, .int .i64 0]) ?_ 0 _ rfl; (repeat refine dw ?_); exact BK328.out) Tryz.underlying25 rfl (by kernel_rfl)) rfl ?_
                      exact ⟨fe, bbl⟩
                     ·rw [if_neg c207] at H
                      have c207b0 : (a0.toList == ([42] : List UInt8)) = false := beq_eq_false_iff_ne.mpr c207
                      have c207b1 : (a0.toList != ([42] : List UInt8)) = true := bne_iff_ne.mpr c207
                      obtain ⟨⟨t385, t386⟩, A216, H⟩ := bnd H
                      replace H : (some (t385, t386, true)) = some (r1, r2, r3) := H
                      obtain ⟨rfl, rfl, rfl⟩ := zs3 H
                      have := NB326_327.out
                      have := NB327_326.out
                      have := NB326_328.out
                      have := NB328_326.out
                      obtain ⟨_, _, _, _⟩ := bz BK326
                      have := NB327_328.out
                      have := NB328_327.out
                      obtain ⟨_, _, _, _⟩ := bz BK327
                      go_wp2_with (first | ((with_reducible refine gate_callee (f := 100) rfl ?_); refine goesL_ (some 149) rfl rfl Tryz.func100 (by kernel_rfl) rfl #[.agg #[.int .i64 a1_0, .int .i64 a1_1], .agg #[.int .i64 a2_0, .int .i64 a2_1]] rfl ma ?_; (with_reducible refine (r8_over.calls kj31 a1_0 a1_1 a2_0 a2_1 t385 t386 _ A216.out).mono ?_); rintro e w222 ⟨rfl, hb⟩; refine ⟨_, rfl, ?_⟩; replace BK326 := bkb BK326 hb; replace BK327 := bkb BK327 hb; replace BK328 := bkb BK328 hb; replace HB := bsq w hb; (try clear hb); have hcz223_0 := bz0 BK328; have hcz223_1 := bz1 BK328; have hfz223_0 := blk_frozen BK328.out 0; have hfz223_1 := blk_frozen BK328.out 1))
                      refine bodyPost_ret (results_ct rfl _ _ gb328 25 #[.int .i64 t385, .int .i64 t386] (0, 0) _ rfl (by (repeat refine dw ?_); refine blk_put (cs := #[.int .i64 t385, .int .i64 0]) ?_ 1 _ rfl; (repeat refine dw ?_); refine blk_put (cs := #[.int .i64 0, .int .i64 0]) ?_ 0 _ rfl; (repeat refine dw ?_); exact BK328.out) Tryz.underlying25 rfl (by kernel_rfl)) rfl ?_
                      exact ⟨fe, bbl⟩
    ·replace c14 := znf c14
     subst c14
     replace H := iF H
     obtain ⟨rfl, rfl, rfl⟩ := zs3 H
     obtain ⟨Ao224, co224, eo224⟩ := Kd.R_slice HO_9.out
     subst eo224
     have := NB328_326.out
     have := NB326_328.out
     have := NB328_327.out
     have := NB327_328.out
     obtain ⟨_, _, _, _⟩ := bz BK328
     go_wp2
     refine bodyPost_ret (results_ct rfl _ _ gb328 25 #[.int .i64 0, .int .i64 0] (0, 0) _ rfl (by (repeat refine dw ?_); refine blk_put (cs := #[.int .i64 0, .int .i64 0]) ?_ 1 _ rfl; (repeat refine dw ?_); refine blk_put (cs := #[.int .i64 0, .int .i64 0]) ?_ 0 _ rfl; (repeat refine dw ?_); exact BK328.out) Tryz.underlying25 rfl (by kernel_rfl)) rfl ?_
     exact ⟨fe, bbl⟩
def r8_Do.j0 : Nat → ByteArray → List (S25) → Bool → Int → Int → Option (Int × Int × Int)
 | 0, _, _, _, _, _ => none
 | k + 1, x0, x1, x7, x390000, x390001 => if (x1.length : Int) = 2 then (if 0 < (x1.length : Int) then (if 1 < (x1.length : Int) then ((r8_two.f k x0 ((rd_T25 x1 0).f0) ((rd_T25 x1 0).f1) ((rd_T25 x1 1).f0) ((rd_T25 x1 1).f1)).bind fun bt396 => (if bt396.2.2 = true then (some (bt396.1, bt396.2.1, 0)) else (some (0, 0, 2)))) else (none)) else (none)) else (if x7 = true then (some (x390000, x390001, 0)) else (some (0, 0, 2)))
def r8_Do.f (k : Nat) (a0 : ByteArray) (l1 : List (S25)) : Option (Int × Int × Int) := (r8_Check.f k l1).bind fun t388 => (if t388 = 0 then (if (l1.length : Int) = 1 then (if 0 < (l1.length : Int) then ((r8_one.f k a0 ((rd_T25 l1 0).f0) ((rd_T25 l1 0).f1)).bind fun bt391 => (r8_Do.j0 k a0 l1 bt391.2.2 bt391.1 bt391.2.1)) else (none)) else (r8_Do.j0 k a0 l1 false 0 0)) else (some (0, 0, 80)))
def r8_Do.T7 : Bool × List (List Nat × List Nat) := (true, [([], []), ([], []), ([1], [1]), ([2], [2]), ([], []), ([4], [4]), ([5], [5]), ([0, 3, 6], [0, 3, 6]), ([7], [7]), ([8], [8]), ([8], [8]), ([9, 7, 0, 1, 2, 3, 4, 5, 6, 7, 8, 9], [9]), ([10, 11, 0, 1, 2, 3, 4, 5, 6, 7, 8, 9, 10, 11], [10])])
def r8_Do.B7 : List Nat := [0, 0, 2, 6, 0, 16, 48, 127, 255, 511, 511, 1023, 4095]
theorem r8_Do.tab7 : rtab .any (opsOf Tryz.f17 7) = r8_Do.T7 := by kernel_rfl
theorem r8_Do.bits7 : waitsOk r8_Do.T7.2 r8_Do.B7 = true := by kernel_rfl
theorem r8_Do.calls (k : Nat) (a0 : ByteArray) (A1 : Option Addr) (c1 : Nat) (l1 : List (S25)) (r1 : Int) (r2 : Int) (r3 : Int) (w : World) (hr1 : Kd.C k25 w A1 l1.length l1) (hc1 : l1.length ≤ c1) (h : r8_Do.f k a0 l1 = some (r1, r2, r3)) :
  Calls Tryz.prog 17 #[.string a0, .slice A1 l1.length c1] w fun e w' => e = .returned (.tuple #[.agg #[.int .i64 r1, .int .i64 r2], .int .i64 r3]) ∧ Below w.heap.size w w' := by
 have hu25 := Tryz.underlying25
 have HR1 := Sd.mk hr1
 have HC1 := Sd.mk hc1
 clear hr1 hc1
 have HB := zsB w
 have H : ((r8_Check.f k l1).bind fun t388 => (if t388 = 0 then (if (l1.length : Int) = 1 then (if 0 < (l1.length : Int) then ((r8_one.f k a0 ((rd_T25 l1 0).f0) ((rd_T25 l1 0).f1)).bind fun bt391 => (r8_Do.j0 k a0 l1 bt391.2.2 bt391.1 bt391.2.1)) else (none)) else (r8_Do.j0 k a0 l1 false 0 0)) else (some (0, 0, 80)))) = some (r1, r2, r3) := h
 clear h
 obtain ⟨t388, A3, H⟩ := bnd H
 by_cases c4 : t388 = 0
 ·rw [if_pos c4] at H
  have c4b0 := beq_iff_eq.mpr c4
  have c4b1 := bne_eq_false_iff_eq.mpr c4
  clear c4
  have HC5 := Sd.mk H
  clear H
  go_enter Tryz.func17, Tryz.ntmps17
  go_upto_if 15 with (first | ((with_reducible refine gate_dst (N := 4) rfl ?_); refine bxe (N := 4) (cs := #[.int .i64 0, .int .i64 0]) (t := 25) ?_; intro gb387 hg w6 hbox hb; have BK387 := Sd.mk hbox; have GW387 := bge w hg; have GE387 := bge w hg; replace HB := bsq w hb; clear hb hbox hg) | ((with_reducible refine gate_callee (f := 59) rfl ?_); refine goesL_ (some 9) rfl rfl Tryz.func59 (by kernel_rfl) rfl #[.slice A1 l1.length c1] rfl ma ?_; (with_reducible refine (r8_Check.calls k _ _ l1 t388 _ ?side1 ?side2 A3.out).mono ?_); (case side1 => repeat (first | exact (Kd.C_below HR1.out HB.out) | (with_reducible refine Kd.C_alloc ?_ _) | (with_reducible refine Kd.C_drewN ?_ _) | (with_reducible refine Kd.C_drew ?_))); (case side2 => exact HC1.out); rintro e w7 ⟨rfl, hb⟩; refine ⟨_, rfl, ?_⟩; replace BK387 := bkb BK387 hb; replace HB := bsq w hb; (try clear hb)) | ((with_reducible refine gate_dst (N := 6) rfl ?_); refine bxe (N := 6) (cs := #[.int .i64 0, .int .i64 0]) (t := 25) ?_; intro gb389 hg w8 hbox hb; have BK389 := Sd.mk hbox; have GW389 := bge w hg; have NB387_389 := bnl BK387 hg; have NB389_387 := bng BK387 hg; replace BK387 := bkb BK387 hb; replace HB := bsq w hb; clear hb hbox hg; have hnb9 := NB389_387.out; have hnc9 := NB387_389.out; have hcz10_0 := bz0 BK389; have hcz10_1 := bz1 BK389; have hfz10_0 := blk_frozen BK389.out 0; have hfz10_1 := blk_frozen BK389.out 1))
  (try simp only [Act.put, List.setIfInBounds_toArray, List.set_cons_zero, List.set_cons_succ])
  go_cut [7] (fun v7 wc => ∃ (kq : Nat) (x7_4 : Bool) (x390000_4 : Int) (x390001_4 : Int), v7 = .bool x7_4 ∧ Sd (r8_Do.j0 kq a0 l1 x7_4 x390000_4 x390001_4 = some (r1, r2, r3)) ∧ Sd (kq ≤ k) ∧ Sd (wc.heap[gb387]? = some (.cells #[.int .i64 0, .int .i64 0] 25 (0, 0))) ∧ Sd (wc.heap[gb389]? = some (.cells #[.int .i64 x390000_4, .int .i64 x390001_4] 25 (0, 0))) ∧ Sd (Below w.heap.size w wc))
  case first =>
   have H := HC5.out
   clear HC5
   by_cases c11 : (l1.length : Int) = 1
   ·rw [if_pos c11] at H
    have c11b0 : ((l1.length : Int) == 1) = true := beq_iff_eq.mpr c11
    have c11b1 : ((l1.length : Int) != 1) = false := bne_eq_false_iff_eq.mpr c11
    clear c11
    (first | rw [c11b0] | (simp only [i64_w, i32_w]; rw [c11b0]) | skip)
    by_cases c12 : 0 < (l1.length : Int)
    ·rw [if_pos c12] at H
     have c12b0 : decide (0 < (l1.length : Int)) = true := decide_eq_true c12
     have c12b1 : decide (0 < l1.length) = true := decide_eq_true (by omega)
     clear c12
     obtain ⟨⟨t391, t392, t393⟩, A13, H⟩ := bnd H
     replace H : (r8_Do.j0 k a0 l1 t393 t391 t392) = some (r1, r2, r3) := H
     have H' := Sd.mk H
     clear H
     have p390 : 0 ≤ (0 : Int) := (by omega)
     have q390 : 0 < (l1.length : Int) := ode
     obtain ⟨ad390, e390, hx390_0, hx390_1⟩ := at_T25 HR1.out 0 p390 q390
     cases e390
     have qi390 : (0 < l1.length) = True := eq_true (by omega)
     (try rw [show ((0 : Int)).toNat = 0 from rfl] at hx390_0)
     (try rw [show 0 * 2 = 0 from rfl] at hx390_0)
     (try rw [Addr.add_zero'] at hx390_0)
     (try rw [show ((0 : Int)).toNat = 0 from rfl] at hx390_1)
     (try rw [show 0 * 2 = 0 from rfl] at hx390_1)
     (try rw [Addr.add_zero'] at hx390_1)
     have hn390_0 : ad390.block ≠ gb389 := Nat.ne_of_lt (Nat.lt_of_lt_of_le (by have := World.block_lt_of_cell? _ _ hx390_0; first | rwa [add_block] at this | exact this) GW389.out)
     have hn390_1 : ad390.block ≠ gb389 := Nat.ne_of_lt (Nat.lt_of_lt_of_le (by have := World.block_lt_of_cell? _ _ hx390_0; first | rwa [add_block] at this | exact this) GW389.out)
     replace hx390_0 := hxc HB hx390_0
     replace hx390_1 := hxc HB hx390_1
     replace hx390_0 := (cell_far (p := ⟨gb389, 0, none⟩) (by first | (rw [add_block]; exact hn390_0) | (show (Addr.add _ _).block ≠ _; rw [add_block]; exact hn390_0) | exact hn390_0) (.int .i64 0)).trans hx390_0
     replace hx390_1 := (cell_far (p := ⟨gb389, 0, none⟩) (by first | (rw [add_block]; exact hn390_0) | (show (Addr.add _ _).block ≠ _; rw [add_block]; exact hn390_0) | exact hn390_0) (.int .i64 0)).trans hx390_1
     replace hx390_0 := (cell_far (p := ⟨gb389, 1, none⟩) (by first | (rw [add_block]; exact hn390_1) | (show (Addr.add _ _).block ≠ _; rw [add_block]; exact hn390_1) | exact hn390_1) (.int .i64 0)).trans hx390_0
     replace hx390_1 := (cell_far (p := ⟨gb389, 1, none⟩) (by first | (rw [add_block]; exact hn390_1) | (show (Addr.add _ _).block ≠ _; rw [add_block]; exact hn390_1) | exact hn390_1) (.int .i64 0)).trans hx390_1
     clear hn390_0 hn390_1
     replace p390 := eq_true p390
     replace q390 := eq_true q390
     go_wp2_with (first | ((with_reducible refine gate_callee (f := 60) rfl ?_); refine goesL_ (some 21) rfl rfl Tryz.func60 (by kernel_rfl) rfl #[.string a0, .agg #[.int .i64 ((rd_T25 l1 0).f0), .int .i64 ((rd_T25 l1 0).f1)]] rfl ma ?_; (with_reducible refine (r8_one.calls k a0 ((rd_T25 l1 0).f0) ((rd_T25 l1 0).f1) t391 t392 t393 _ A13.out).mono ?_); rintro e w14 ⟨rfl, hb⟩; refine ⟨_, rfl, ?_⟩; have n0_ := Sd.mk (blk_below (g := gb387) (o := .cells #[.int .i64 0, .int .i64 0] 25 (0, 0)) (by (repeat refine dw ?_); refine blk_far ?_ NB387_389.out _; (repeat refine dw ?_); refine blk_far ?_ NB387_389.out _; (repeat refine dw ?_); exact BK387.out) hb); have n1_ := Sd.mk (blk_below (g := gb389) (o := .cells #[.int .i64 0, .int .i64 0] 25 (0, 0)) (by (repeat refine dw ?_); refine blk_put (cs := #[.int .i64 0, .int .i64 0]) ?_ 1 _ rfl; (repeat refine dw ?_); refine blk_put (cs := #[.int .i64 0, .int .i64 0]) ?_ 0 _ rfl; (repeat refine dw ?_); exact BK389.out) hb); have n2_ := bsq w hb; clear BK387; clear BK389; clear HB; have BK387 := n0_; have BK389 := n1_; have HB := n2_; clear n0_ n1_ n2_; (try clear hb); have hnb15 := NB389_387.out; have hnc15 := NB387_389.out; have hcz16_0 := bz0 BK389; have hcz16_1 := bz1 BK389; have hfz16_0 := blk_frozen BK389.out 0; have hfz16_1 := blk_frozen BK389.out 1))
     go_meet
     case rel => exact ⟨_, (t393), (t391), (t392), ae, H', ⟨by first | omega | exact Nat.le_refl _⟩, ⟨by (repeat refine dw ?_); refine blk_far ?_ NB387_389.out _; (repeat refine dw ?_); refine blk_far ?_ NB387_389.out _; (repeat refine dw ?_); exact BK387.out⟩, ⟨by (repeat refine dw ?_); refine blk_put (cs := #[.int .i64 t391, .int .i64 0]) ?_ 1 _ rfl; (repeat refine dw ?_); refine blk_put (cs := #[.int .i64 0, .int .i64 0]) ?_ 0 _ rfl; (repeat refine dw ?_); exact BK389.out⟩, ⟨bbl⟩⟩
    ·rw [if_neg c12] at H
     exact absurd H (by simp)
   ·rw [if_neg c11] at H
    have c11b0 : ((l1.length : Int) == 1) = false := beq_eq_false_iff_ne.mpr c11
    have c11b1 : ((l1.length : Int) != 1) = true := bne_iff_ne.mpr c11
    (first | rw [c11b0] | (simp only [i64_w, i32_w]; rw [c11b0]) | skip)
    have H' := Sd.mk H
    clear H
    go_wp2
    go_meet
    case rel => exact ⟨_, (false), (0), (0), ae, H', ⟨by first | omega | exact Nat.le_refl _⟩, ⟨by (repeat refine dw ?_); refine blk_far ?_ NB387_389.out _; (repeat refine dw ?_); refine blk_far ?_ NB387_389.out _; (repeat refine dw ?_); exact BK387.out⟩, ⟨by (repeat refine dw ?_); refine blk_put (cs := #[.int .i64 0, .int .i64 0]) ?_ 1 _ rfl; (repeat refine dw ?_); refine blk_put (cs := #[.int .i64 0, .int .i64 0]) ?_ 0 _ rfl; (repeat refine dw ?_); exact BK389.out⟩, ⟨bbl⟩⟩
  case rest =>
   clear HC5
   obtain ⟨kq, x7_4, x390000_4, x390001_4, rfl, HA, HJ4, BK387, BK389, HB⟩ := hcut
   cases kq with
   | zero => exact absurd HA.out (by simp [r8_Do.j0])
   | succ kj4 =>
    have H := HA.out
    clear HA
    simp only [r8_Do.j0] at H
    by_cases c17 : (l1.length : Int) = 2
    ·rw [if_pos c17] at H
     have c17b0 : ((l1.length : Int) == 2) = true := beq_iff_eq.mpr c17
     have c17b1 : ((l1.length : Int) != 2) = false := bne_eq_false_iff_eq.mpr c17
     clear c17
     by_cases c18 : 0 < (l1.length : Int)
     ·rw [if_pos c18] at H
      have c18b0 : decide (0 < (l1.length : Int)) = true := decide_eq_true c18
      have c18b1 : decide (0 < l1.length) = true := decide_eq_true (by omega)
      clear c18
      by_cases c19 : 1 < (l1.length : Int)
      ·rw [if_pos c19] at H
       have c19b0 : decide (1 < (l1.length : Int)) = true := decide_eq_true c19
       have c19b1 : decide (1 < l1.length) = true := decide_eq_true (by omega)
       clear c19
       obtain ⟨⟨t396, t397, t398⟩, A20, H⟩ := bnd H
       replace H : (if t398 = true then (some (t396, t397, 0)) else (some (0, 0, 2))) = some (r1, r2, r3) := H
       by_cases c21 : t398 = true
       ·subst c21
        replace H := iT H
        obtain ⟨rfl, rfl, rfl⟩ := zs3 H
        try go_wp2
        replace BK387 := Sd.mk (blk_drew BK387.out)
        replace BK389 := Sd.mk (blk_drew BK389.out)
        replace HB := Sd.mk (bd1 HB.out)
        have p394 : 0 ≤ (0 : Int) := (by omega)
        have q394 : 0 < (l1.length : Int) := ode
        obtain ⟨ad394, e394, hx394_0, hx394_1⟩ := at_T25 HR1.out 0 p394 q394
        have hw394_1 := hx394_1
        (try rw [show ((0 : Int)).toNat = 0 from rfl] at hw394_1)
        (try rw [show 0 * 2 = 0 from rfl] at hw394_1)
        (try rw [Addr.add_zero'] at hw394_1)
        have hw394_0 := hx394_0
        (try rw [show ((0 : Int)).toNat = 0 from rfl] at hw394_0)
        (try rw [show 0 * 2 = 0 from rfl] at hw394_0)
        (try rw [Addr.add_zero'] at hw394_0)
        cases e394
        have qi394 : (0 < l1.length) = True := eq_true (by omega)
        (try rw [show ((0 : Int)).toNat = 0 from rfl] at hx394_0)
        (try rw [show 0 * 2 = 0 from rfl] at hx394_0)
        (try rw [Addr.add_zero'] at hx394_0)
        (try rw [show ((0 : Int)).toNat = 0 from rfl] at hx394_1)
        (try rw [show 0 * 2 = 0 from rfl] at hx394_1)
        (try rw [Addr.add_zero'] at hx394_1)
        replace hx394_0 := hxc HB hx394_0
        replace hx394_1 := hxc HB hx394_1
        replace p394 := eq_true p394
        replace q394 := eq_true q394
        have p395 : 0 ≤ (1 : Int) := (by omega)
        have q395 : 1 < (l1.length : Int) := ode
        obtain ⟨ad395, e395, hx395_0, hx395_1⟩ := at_T25 HR1.out 1 p395 q395
        have hw395_1 := hx395_1
        (try rw [show ((1 : Int)).toNat = 1 from rfl] at hw395_1)
        (try rw [show 1 * 2 = 2 from rfl] at hw395_1)
        (try simp only [Nat.reduceMul, Nat.reduceEqDiff, Go.Addr.add, ↓reduceIte] at hw395_1)
        have hw395_0 := hx395_0
        (try rw [show ((1 : Int)).toNat = 1 from rfl] at hw395_0)
        (try rw [show 1 * 2 = 2 from rfl] at hw395_0)
        (try simp only [Nat.reduceMul, Nat.reduceEqDiff, Go.Addr.add, ↓reduceIte] at hw395_0)
        obtain rfl : ad394 = ad395 := (by injection e395)
        (try simp only [show (1 : Int).toNat = 1 from rfl, Nat.reduceMul, Nat.reduceEqDiff, Go.Addr.add, ↓reduceIte] at hx395_0)
        (try simp only [show (1 : Int).toNat = 1 from rfl, Nat.reduceMul, Nat.reduceEqDiff, Go.Addr.add, ↓reduceIte] at hx395_1)
        have qi395 : (1 < l1.length) = True := eq_true (by omega)
        (try rw [show ((1 : Int)).toNat = 1 from rfl] at hx395_0)
        (try rw [show 1 * 2 = 2 from rfl] at hx395_0)
        (try rw [show ((1 : Int)).toNat = 1 from rfl] at hx395_1)
        (try rw [show 1 * 2 = 2 from rfl] at hx395_1)
        replace hx395_0 := hxc HB hx395_0
        replace hx395_1 := hxc HB hx395_1
        replace p395 := eq_true p395
        replace q395 := eq_true q395
        refine start_ (n := 13) (S := fun w' => w'.cell? ad394 = some (.int .i64 ((rd_T25 l1 0).f0)) ∧ w'.cell? ⟨ad394.block, ad394.off + 1, none⟩ = some (.int .i64 ((rd_T25 l1 0).f1)) ∧ w'.cell? ⟨ad394.block, ad394.off + 2, none⟩ = some (.int .i64 ((rd_T25 l1 1).f0)) ∧ w'.cell? ⟨ad394.block, ad394.off + 2 + 1, none⟩ = some (.int .i64 ((rd_T25 l1 1).f1))) (ds := []) #[false, false, false, false, false, false, false, false, false, false, false, false, false] (by kernel_rfl) rfl rfl ⟨((HB.out.cell (World.block_lt_of_cell? w _ hw394_0)).trans hw394_0), ((HB.out.cell (World.block_lt_of_cell? w _ hw394_1)).trans hw394_1), ((HB.out.cell (World.block_lt_of_cell? w _ hw395_0)).trans hw395_0), ((HB.out.cell (World.block_lt_of_cell? w _ hw395_1)).trans hw395_1)⟩ (fun hHeld => ?_); refine with_tabW r8_Do.tab7 r8_Do.bits7 (fun HT_ HW_ => ?_)
        generalize wc.drew = w22 at BK387 BK389 HB hx394_0 hx394_1 hx395_0 hx395_1 hHeld ⊢
        refine pure_ (i := 0) (N := some 28) (v := ?_) (a' := ?_) #[true, false, false, false, false, false, false, false, false, false, false, false, false] rfl rfl (any_of HT_.out (by kernel_rfl)) (fun _ _ _ h => h) (Or.inl ⟨by rfl, ?_⟩) ?_ ?_
        rotate_left
        ·intro w'
         go_simp
         with_reducible rfl
        rotate_left
        ·simp only [zpz]
         rfl
        refine pure_ (i := 1) (N := some 29) (v := ?_) (a' := ?_) #[true, true, false, false, false, false, false, false, false, false, false, false, false] rfl rfl (any_of HT_.out (by kernel_rfl)) (fun _ _ _ h => h) (Or.inl ⟨by rfl, ?_⟩) ?_ ?_
        rotate_left
        ·intro w'
         go_simp
         with_reducible rfl
        rotate_left
        ·simp only [zpz]
         rfl
        refine pure_ (i := 2) (N := some 30) (v := ?_) (a' := ?_) #[true, true, true, false, false, false, false, false, false, false, false, false, false] rfl rfl (any_of HT_.out (by kernel_rfl)) (fun _ _ _ h => h) (Or.inl ⟨by rfl, ?_⟩) ?_ ?_
        rotate_left
        ·intro w'
         go_simp
         with_reducible rfl
        rotate_left
        ·simp only [zpz]
         rfl
        refine pure_ (i := 4) (N := some 32) (v := ?_) (a' := ?_) #[true, true, true, false, true, false, false, false, false, false, false, false, false] rfl rfl (any_of HT_.out (by kernel_rfl)) (fun _ _ _ h => h) (Or.inl ⟨by rfl, ?_⟩) ?_ ?_
        rotate_left
        ·intro w'
         go_simp
         with_reducible rfl
        rotate_left
        ·simp only [zpz]
         rfl
        refine pure_ (i := 5) (N := some 33) (v := ?_) (a' := ?_) #[true, true, true, false, true, true, false, false, false, false, false, false, false] rfl rfl (any_of HT_.out (by kernel_rfl)) (fun _ _ _ h => h) (Or.inl ⟨by rfl, ?_⟩) ?_ ?_
        rotate_left
        ·intro w'
         go_simp
         with_reducible rfl
        rotate_left
        ·simp only [zpz]
         rfl
        refine take_ (i := 3) (N := some 31) (v := ?_) (a' := ?_) #[true, true, true, true, true, true, false, false, false, false, false, false, false] rfl rfl (take_ofW HT_.out HW_.out (by kernel_rfl)) (fun _ _ _ h => h) (Or.inl ⟨by rfl, ?_⟩) hHeld ?_ ?_
        rotate_left
        ·rintro w' ⟨s0, s1, s2, s3⟩
         go_simp
         with_reducible rfl
        rotate_left
        ·simp only [zpz]
         rfl
        refine take_ (i := 6) (N := some 34) (v := ?_) (a' := ?_) #[true, true, true, true, true, true, true, false, false, false, false, false, false] rfl rfl (take_ofW HT_.out HW_.out (by kernel_rfl)) (fun _ _ _ h => h) (Or.inl ⟨by rfl, ?_⟩) hHeld ?_ ?_
        rotate_left
        ·rintro w' ⟨s0, s1, s2, s3⟩
         go_simp
         with_reducible rfl
        rotate_left
        ·simp only [zpz]
         rfl
        refine one_ (i := 7) (N := some 35) #[true, true, true, true, true, true, true, true, false, false, false, false, false] rfl rfl (one_of HT_.out (by kernel_rfl)) (by decide) (fun K hK => ?_)
        refine goes_ Tryz.func61 (by kernel_rfl) rfl #[.string a0, .agg #[.int .i64 ((rd_T25 l1 0).f0), .int .i64 ((rd_T25 l1 0).f1)], .agg #[.int .i64 ((rd_T25 l1 1).f0), .int .i64 ((rd_T25 l1 1).f1)]] (by rfl) rfl rfl ma ?_
        with_reducible refine (r8_two.calls kj4 a0 ((rd_T25 l1 0).f0) ((rd_T25 l1 0).f1) ((rd_T25 l1 1).f0) ((rd_T25 l1 1).f1) t396 t397 true _ A20.out).mono ?_
        rintro e w23 ⟨rfl, hb⟩
        refine ⟨_, rfl, ?_⟩
        replace BK387 := bkb BK387 hb
        replace BK389 := bkb BK389 hb
        replace HB := bsq w hb
        (try clear hb)
        refine hK.out _ _ ⟨((HB.out.cell (World.block_lt_of_cell? w _ hw394_0)).trans hw394_0), ((HB.out.cell (World.block_lt_of_cell? w _ hw394_1)).trans hw394_1), ((HB.out.cell (World.block_lt_of_cell? w _ hw395_0)).trans hw395_0), ((HB.out.cell (World.block_lt_of_cell? w _ hw395_1)).trans hw395_1)⟩ (fun hHeld => ?_)
        clear hK K
        refine norm_ (a' := ?_) ?_ ?_
        rotate_left
        ·show Act.put _ (some 35) _ = _
         simp only [zpz]
         rfl
        refine pure_ (i := 8) (N := some 27) (v := ?_) (a' := ?_) #[true, true, true, true, true, true, true, true, true, false, false, false, false] rfl rfl (any_of HT_.out (by kernel_rfl)) (fun _ _ _ h => h) (Or.inl ⟨by rfl, ?_⟩) ?_ ?_
        rotate_left
        ·intro w'
         go_simp
         with_reducible rfl
        rotate_left
        ·simp only [zpz]
         rfl
        refine pure_ (i := 9) (N := some 36) (v := ?_) (a' := ?_) #[true, true, true, true, true, true, true, true, true, true, false, false, false] rfl rfl (any_of HT_.out (by kernel_rfl)) (fun _ _ _ h => h) (Or.inl ⟨by rfl, ?_⟩) ?_ ?_
        rotate_left
        ·intro w'
         go_simp
         with_reducible rfl
        rotate_left
        ·simp only [zpz]
         rfl
        refine pure_ (i := 10) (N := some 37) (v := ?_) (a' := ?_) #[true, true, true, true, true, true, true, true, true, true, true, false, false] rfl rfl (any_of HT_.out (by kernel_rfl)) (fun _ _ _ h => h) (Or.inl ⟨by rfl, ?_⟩) ?_ ?_
        rotate_left
        ·intro w'
         go_simp
         with_reducible rfl
        rotate_left
        ·simp only [zpz]
         rfl
        refine one_ (i := 11) (N := none) #[true, true, true, true, true, true, true, true, true, true, true, true, false] rfl rfl (one_of HT_.out (by kernel_rfl)) (by decide) (fun K hK => ?_)
        have hs24 : w23.cell? ⟨gb389, 0, none⟩ = some (.int .i64 x390000_4) := (blk_cell BK389.out 0).trans rfl
        have hfs24 := blk_frozen BK389.out 0
        have hns24_0 := NB387_389.out
        have hms24_0 := NB389_387.out
        have hs25 : w23.cell? ⟨gb389, 1, none⟩ = some (.int .i64 x390001_4) := (blk_cell BK389.out 1).trans rfl
        have hfs25 := blk_frozen BK389.out 1
        have hns25_0 := NB387_389.out
        have hms25_0 := NB389_387.out
        refine skip_ (w1 := ?_) (by rfl) rfl ?_ ?_
        rotate_left
        ·go_simp
         rfl
        refine hK.out _ _ ⟨((cell_far (p := ⟨gb389, _, none⟩) (zcb hw394_0 GW389) _).trans (((cell_far (p := ⟨gb389, _, none⟩) (zcb hw394_0 GW389) _).trans (hHeld.1)))), ((cell_far (p := ⟨gb389, _, none⟩) (zcb hw394_1 GW389) _).trans (((cell_far (p := ⟨gb389, _, none⟩) (zcb hw394_1 GW389) _).trans (hHeld.2.1)))), ((cell_far (p := ⟨gb389, _, none⟩) (zcb hw395_0 GW389) _).trans (((cell_far (p := ⟨gb389, _, none⟩) (zcb hw395_0 GW389) _).trans (hHeld.2.2.1)))), ((cell_far (p := ⟨gb389, _, none⟩) (zcb hw395_1 GW389) _).trans (((cell_far (p := ⟨gb389, _, none⟩) (zcb hw395_1 GW389) _).trans (hHeld.2.2.2))))⟩ (fun hHeld => ?_)
        clear hK K
        refine pure_ (i := 12) (N := some 7) (v := ?_) (a' := ?_) #[true, true, true, true, true, true, true, true, true, true, true, true, true] rfl rfl (any_of HT_.out (by kernel_rfl)) (fun _ _ _ h => h) (Or.inl ⟨by rfl, ?_⟩) ?_ ?_
        rotate_left
        ·intro w'
         go_simp
         with_reducible rfl
        rotate_left
        ·simp only [zpz]
         rfl
        refine done_ (done_of HT_.out (by kernel_rfl)) ?_
        have := NB389_387.out
        have := NB387_389.out
        obtain ⟨_, _, _, _⟩ := bz BK389
        obtain ⟨_, _, _, _⟩ := bz BK387
        try go_wp2
        refine bodyPost_ret (results_ct rfl _ _ gb387 25 #[.int .i64 t396, .int .i64 t397] (0, 0) _ rfl (by (repeat refine dw ?_); refine blk_put (cs := #[.int .i64 t396, .int .i64 0]) ?_ 1 _ rfl; (repeat refine dw ?_); refine blk_put (cs := #[.int .i64 0, .int .i64 0]) ?_ 0 _ rfl; (repeat refine dw ?_); refine blk_far ?_ NB387_389.out _; (repeat refine dw ?_); refine blk_far ?_ NB387_389.out _; (repeat refine dw ?_); exact BK387.out) Tryz.underlying25 rfl (by kernel_rfl)) rfl ?_
        exact ⟨fe, bbl⟩
       ·replace c21 := znf c21
        subst c21
        replace H := iF H
        obtain ⟨rfl, rfl, rfl⟩ := zs3 H
        try go_wp2
        replace BK387 := Sd.mk (blk_drew BK387.out)
        replace BK389 := Sd.mk (blk_drew BK389.out)
        replace HB := Sd.mk (bd1 HB.out)
        have p394 : 0 ≤ (0 : Int) := (by omega)
        have q394 : 0 < (l1.length : Int) := ode
        obtain ⟨ad394, e394, hx394_0, hx394_1⟩ := at_T25 HR1.out 0 p394 q394
        have hw394_1 := hx394_1
        (try rw [show ((0 : Int)).toNat = 0 from rfl] at hw394_1)
        (try rw [show 0 * 2 = 0 from rfl] at hw394_1)
        (try rw [Addr.add_zero'] at hw394_1)
        have hw394_0 := hx394_0
        (try rw [show ((0 : Int)).toNat = 0 from rfl] at hw394_0)
        (try rw [show 0 * 2 = 0 from rfl] at hw394_0)
        (try rw [Addr.add_zero'] at hw394_0)
        cases e394
        have qi394 : (0 < l1.length) = True := eq_true (by omega)
        (try rw [show ((0 : Int)).toNat = 0 from rfl] at hx394_0)
        (try rw [show 0 * 2 = 0 from rfl] at hx394_0)
        (try rw [Addr.add_zero'] at hx394_0)
        (try rw [show ((0 : Int)).toNat = 0 from rfl] at hx394_1)
        (try rw [show 0 * 2 = 0 from rfl] at hx394_1)
        (try rw [Addr.add_zero'] at hx394_1)
        replace hx394_0 := hxc HB hx394_0
        replace hx394_1 := hxc HB hx394_1
        replace p394 := eq_true p394
        replace q394 := eq_true q394
        have p395 : 0 ≤ (1 : Int) := (by omega)
        have q395 : 1 < (l1.length : Int) := ode
        obtain ⟨ad395, e395, hx395_0, hx395_1⟩ := at_T25 HR1.out 1 p395 q395
        have hw395_1 := hx395_1
        (try rw [show ((1 : Int)).toNat = 1 from rfl] at hw395_1)
        (try rw [show 1 * 2 = 2 from rfl] at hw395_1)
        (try simp only [Nat.reduceMul, Nat.reduceEqDiff, Go.Addr.add, ↓reduceIte] at hw395_1)
        have hw395_0 := hx395_0
        (try rw [show ((1 : Int)).toNat = 1 from rfl] at hw395_0)
        (try rw [show 1 * 2 = 2 from rfl] at hw395_0)
        (try simp only [Nat.reduceMul, Nat.reduceEqDiff, Go.Addr.add, ↓reduceIte] at hw395_0)
        obtain rfl : ad394 = ad395 := (by injection e395)
        (try simp only [show (1 : Int).toNat = 1 from rfl, Nat.reduceMul, Nat.reduceEqDiff, Go.Addr.add, ↓reduceIte] at hx395_0)
        (try simp only [show (1 : Int).toNat = 1 from rfl, Nat.reduceMul, Nat.reduceEqDiff, Go.Addr.add, ↓reduceIte] at hx395_1)
        have qi395 : (1 < l1.length) = True := eq_true (by omega)
        (try rw [show ((1 : Int)).toNat = 1 from rfl] at hx395_0)
        (try rw [show 1 * 2 = 2 from rfl] at hx395_0)
        (try rw [show ((1 : Int)).toNat = 1 from rfl] at hx395_1)
        (try rw [show 1 * 2 = 2 from rfl] at hx395_1)
        replace hx395_0 := hxc HB hx395_0
        replace hx395_1 := hxc HB hx395_1
        replace p395 := eq_true p395
        replace q395 := eq_true q395
        refine start_ (n := 13) (S := fun w' => w'.cell? ad394 = some (.int .i64 ((rd_T25 l1 0).f0)) ∧ w'.cell? ⟨ad394.block, ad394.off + 1, none⟩ = some (.int .i64 ((rd_T25 l1 0).f1)) ∧ w'.cell? ⟨ad394.block, ad394.off + 2, none⟩ = some (.int .i64 ((rd_T25 l1 1).f0)) ∧ w'.cell? ⟨ad394.block, ad394.off + 2 + 1, none⟩ = some (.int .i64 ((rd_T25 l1 1).f1))) (ds := []) #[false, false, false, false, false, false, false, false, false, false, false, false, false] (by kernel_rfl) rfl rfl ⟨((HB.out.cell (World.block_lt_of_cell? w _ hw394_0)).trans hw394_0), ((HB.out.cell (World.block_lt_of_cell? w _ hw394_1)).trans hw394_1), ((HB.out.cell (World.block_lt_of_cell? w _ hw395_0)).trans hw395_0), ((HB.out.cell (World.block_lt_of_cell? w _ hw395_1)).trans hw395_1)⟩ (fun hHeld => ?_); refine with_tabW r8_Do.tab7 r8_Do.bits7 (fun HT_ HW_ => ?_)
        generalize wc.drew = w29 at BK387 BK389 HB hx394_0 hx394_1 hx395_0 hx395_1 hHeld ⊢
        refine pure_ (i := 0) (N := some 28) (v := ?_) (a' := ?_) #[true, false, false, false, false, false, false, false, false, false, false, false, false] rfl rfl (any_of HT_.out (by kernel_rfl)) (fun _ _ _ h => h) (Or.inl ⟨by rfl, ?_⟩) ?_ ?_
        rotate_left
        ·intro w'
         go_simp
         with_reducible rfl
        rotate_left
        ·simp only [zpz]
         rfl
        refine pure_ (i := 1) (N := some 29) (v := ?_) (a' := ?_) #[true, true, false, false, false, false, false, false, false, false, false, false, false] rfl rfl (any_of HT_.out (by kernel_rfl)) (fun _ _ _ h => h) (Or.inl ⟨by rfl, ?_⟩) ?_ ?_
        rotate_left
        ·intro w'
         go_simp
         with_reducible rfl
        rotate_left
        ·simp only [zpz]
         rfl
        refine pure_ (i := 2) (N := some 30) (v := ?_) (a' := ?_) #[true, true, true, false, false, false, false, false, false, false, false, false, false] rfl rfl (any_of HT_.out (by kernel_rfl)) (fun _ _ _ h => h) (Or.inl ⟨by rfl, ?_⟩) ?_ ?_
        rotate_left
        ·intro w'
         go_simp
         with_reducible rfl
        rotate_left
        ·simp only [zpz]
         rfl
        refine pure_ (i := 4) (N := some 32) (v := ?_) (a' := ?_) #[true, true, true, false, true, false, false, false, false, false, false, false, false] rfl rfl (any_of HT_.out (by kernel_rfl)) (fun _ _ _ h => h) (Or.inl ⟨by rfl, ?_⟩) ?_ ?_
        rotate_left
        ·intro w'
         go_simp
         with_reducible rfl
        rotate_left
        ·simp only [zpz]
         rfl
        refine pure_ (i := 5) (N := some 33) (v := ?_) (a' := ?_) #[true, true, true, false, true, true, false, false, false, false, false, false, false] rfl rfl (any_of HT_.out (by kernel_rfl)) (fun _ _ _ h => h) (Or.inl ⟨by rfl, ?_⟩) ?_ ?_
        rotate_left
        ·intro w'
         go_simp
         with_reducible rfl
        rotate_left
        ·simp only [zpz]
         rfl
        refine take_ (i := 3) (N := some 31) (v := ?_) (a' := ?_) #[true, true, true, true, true, true, false, false, false, false, false, false, false] rfl rfl (take_ofW HT_.out HW_.out (by kernel_rfl)) (fun _ _ _ h => h) (Or.inl ⟨by rfl, ?_⟩) hHeld ?_ ?_
        rotate_left
        ·rintro w' ⟨s0, s1, s2, s3⟩
         go_simp
         with_reducible rfl
        rotate_left
        ·simp only [zpz]
         rfl
        refine take_ (i := 6) (N := some 34) (v := ?_) (a' := ?_) #[true, true, true, true, true, true, true, false, false, false, false, false, false] rfl rfl (take_ofW HT_.out HW_.out (by kernel_rfl)) (fun _ _ _ h => h) (Or.inl ⟨by rfl, ?_⟩) hHeld ?_ ?_
        rotate_left
        ·rintro w' ⟨s0, s1, s2, s3⟩
         go_simp
         with_reducible rfl
        rotate_left
        ·simp only [zpz]
         rfl
        refine one_ (i := 7) (N := some 35) #[true, true, true, true, true, true, true, true, false, false, false, false, false] rfl rfl (one_of HT_.out (by kernel_rfl)) (by decide) (fun K hK => ?_)
        refine goes_ Tryz.func61 (by kernel_rfl) rfl #[.string a0, .agg #[.int .i64 ((rd_T25 l1 0).f0), .int .i64 ((rd_T25 l1 0).f1)], .agg #[.int .i64 ((rd_T25 l1 1).f0), .int .i64 ((rd_T25 l1 1).f1)]] (by rfl) rfl rfl ma ?_
        with_reducible refine (r8_two.calls kj4 a0 ((rd_T25 l1 0).f0) ((rd_T25 l1 0).f1) ((rd_T25 l1 1).f0) ((rd_T25 l1 1).f1) t396 t397 false _ A20.out).mono ?_
        rintro e w30 ⟨rfl, hb⟩
        refine ⟨_, rfl, ?_⟩
        replace BK387 := bkb BK387 hb
        replace BK389 := bkb BK389 hb
        replace HB := bsq w hb
        (try clear hb)
        refine hK.out _ _ ⟨((HB.out.cell (World.block_lt_of_cell? w _ hw394_0)).trans hw394_0), ((HB.out.cell (World.block_lt_of_cell? w _ hw394_1)).trans hw394_1), ((HB.out.cell (World.block_lt_of_cell? w _ hw395_0)).trans hw395_0), ((HB.out.cell (World.block_lt_of_cell? w _ hw395_1)).trans hw395_1)⟩ (fun hHeld => ?_)
        clear hK K
        refine norm_ (a' := ?_) ?_ ?_
        rotate_left
        ·show Act.put _ (some 35) _ = _
         simp only [zpz]
         rfl
        refine pure_ (i := 8) (N := some 27) (v := ?_) (a' := ?_) #[true, true, true, true, true, true, true, true, true, false, false, false, false] rfl rfl (any_of HT_.out (by kernel_rfl)) (fun _ _ _ h => h) (Or.inl ⟨by rfl, ?_⟩) ?_ ?_
        rotate_left
        ·intro w'
         go_simp
         with_reducible rfl
        rotate_left
        ·simp only [zpz]
         rfl
        refine pure_ (i := 9) (N := some 36) (v := ?_) (a' := ?_) #[true, true, true, true, true, true, true, true, true, true, false, false, false] rfl rfl (any_of HT_.out (by kernel_rfl)) (fun _ _ _ h => h) (Or.inl ⟨by rfl, ?_⟩) ?_ ?_
        rotate_left
        ·intro w'
         go_simp
         with_reducible rfl
        rotate_left
        ·simp only [zpz]
         rfl
        refine pure_ (i := 10) (N := some 37) (v := ?_) (a' := ?_) #[true, true, true, true, true, true, true, true, true, true, true, false, false] rfl rfl (any_of HT_.out (by kernel_rfl)) (fun _ _ _ h => h) (Or.inl ⟨by rfl, ?_⟩) ?_ ?_
        rotate_left
        ·intro w'
         go_simp
         with_reducible rfl
        rotate_left
        ·simp only [zpz]
         rfl
        refine one_ (i := 11) (N := none) #[true, true, true, true, true, true, true, true, true, true, true, true, false] rfl rfl (one_of HT_.out (by kernel_rfl)) (by decide) (fun K hK => ?_)
        have hs31 : w30.cell? ⟨gb389, 0, none⟩ = some (.int .i64 x390000_4) := (blk_cell BK389.out 0).trans rfl
        have hfs31 := blk_frozen BK389.out 0
        have hns31_0 := NB387_389.out
        have hms31_0 := NB389_387.out
        have hs32 : w30.cell? ⟨gb389, 1, none⟩ = some (.int .i64 x390001_4) := (blk_cell BK389.out 1).trans rfl
        have hfs32 := blk_frozen BK389.out 1
        have hns32_0 := NB387_389.out
        have hms32_0 := NB389_387.out
        refine skip_ (w1 := ?_) (by rfl) rfl ?_ ?_
        rotate_left
        ·go_simp
         rfl
        refine hK.out _ _ ⟨((cell_far (p := ⟨gb389, _, none⟩) (zcb hw394_0 GW389) _).trans (((cell_far (p := ⟨gb389, _, none⟩) (zcb hw394_0 GW389) _).trans (hHeld.1)))), ((cell_far (p := ⟨gb389, _, none⟩) (zcb hw394_1 GW389) _).trans (((cell_far (p := ⟨gb389, _, none⟩) (zcb hw394_1 GW389) _).trans (hHeld.2.1)))), ((cell_far (p := ⟨gb389, _, none⟩) (zcb hw395_0 GW389) _).trans (((cell_far (p := ⟨gb389, _, none⟩) (zcb hw395_0 GW389) _).trans (hHeld.2.2.1)))), ((cell_far (p := ⟨gb389, _, none⟩) (zcb hw395_1 GW389) _).trans (((cell_far (p := ⟨gb389, _, none⟩) (zcb hw395_1 GW389) _).trans (hHeld.2.2.2))))⟩ (fun hHeld => ?_)
        clear hK K
        refine pure_ (i := 12) (N := some 7) (v := ?_) (a' := ?_) #[true, true, true, true, true, true, true, true, true, true, true, true, true] rfl rfl (any_of HT_.out (by kernel_rfl)) (fun _ _ _ h => h) (Or.inl ⟨by rfl, ?_⟩) ?_ ?_
        rotate_left
        ·intro w'
         go_simp
         with_reducible rfl
        rotate_left
        ·simp only [zpz]
         rfl
        refine done_ (done_of HT_.out (by kernel_rfl)) ?_
        have := NB387_389.out
        have := NB389_387.out
        obtain ⟨_, _, _, _⟩ := bz BK387
        try go_wp2
        refine bodyPost_ret (results_ct rfl _ _ gb387 25 #[.int .i64 0, .int .i64 0] (0, 0) _ rfl (by (repeat refine dw ?_); refine blk_put (cs := #[.int .i64 0, .int .i64 0]) ?_ 1 _ rfl; (repeat refine dw ?_); refine blk_put (cs := #[.int .i64 0, .int .i64 0]) ?_ 0 _ rfl; (repeat refine dw ?_); refine blk_far ?_ NB387_389.out _; (repeat refine dw ?_); refine blk_far ?_ NB387_389.out _; (repeat refine dw ?_); exact BK387.out) Tryz.underlying25 rfl (by kernel_rfl)) rfl ?_
        exact ⟨fe, bbl⟩
      ·rw [if_neg c19] at H
       exact absurd H (by simp)
     ·rw [if_neg c18] at H
      exact absurd H (by simp)
    ·rw [if_neg c17] at H
     have c17b0 : ((l1.length : Int) == 2) = false := beq_eq_false_iff_ne.mpr c17
     have c17b1 : ((l1.length : Int) != 2) = true := bne_iff_ne.mpr c17
     by_cases c35 : x7_4 = true
     ·subst c35
      replace H := iT H
      obtain ⟨rfl, rfl, rfl⟩ := zs3 H
      have := NB389_387.out
      have := NB387_389.out
      obtain ⟨_, _, _, _⟩ := bz BK389
      obtain ⟨_, _, _, _⟩ := bz BK387
      go_wp2
      refine bodyPost_ret (results_ct rfl _ _ gb387 25 #[.int .i64 x390000_4, .int .i64 x390001_4] (0, 0) _ rfl (by (repeat refine dw ?_); refine blk_put (cs := #[.int .i64 x390000_4, .int .i64 0]) ?_ 1 _ rfl; (repeat refine dw ?_); refine blk_put (cs := #[.int .i64 0, .int .i64 0]) ?_ 0 _ rfl; (repeat refine dw ?_); exact BK387.out) Tryz.underlying25 rfl (by kernel_rfl)) rfl ?_
      exact ⟨fe, bbl⟩
     ·replace c35 := znf c35
      subst c35
      replace H := iF H
      obtain ⟨rfl, rfl, rfl⟩ := zs3 H
      have := NB387_389.out
      have := NB389_387.out
      obtain ⟨_, _, _, _⟩ := bz BK387
      go_wp2
      refine bodyPost_ret (results_ct rfl _ _ gb387 25 #[.int .i64 0, .int .i64 0] (0, 0) _ rfl (by (repeat refine dw ?_); refine blk_put (cs := #[.int .i64 0, .int .i64 0]) ?_ 1 _ rfl; (repeat refine dw ?_); refine blk_put (cs := #[.int .i64 0, .int .i64 0]) ?_ 0 _ rfl; (repeat refine dw ?_); exact BK387.out) Tryz.underlying25 rfl (by kernel_rfl)) rfl ?_
      exact ⟨fe, bbl⟩
 ·rw [if_neg c4] at H
  have c4b0 := beq_eq_false_iff_ne.mpr c4
  have c4b1 := bne_iff_ne.mpr c4
  obtain ⟨rfl, rfl, rfl⟩ := zs3 H
  go_enter Tryz.func17, Tryz.ntmps17
  go_wp2_with (first | ((with_reducible refine gate_dst (N := 4) rfl ?_); refine bxe (N := 4) (cs := #[.int .i64 0, .int .i64 0]) (t := 25) ?_; intro gb387 hg w41 hbox hb; have BK387 := Sd.mk hbox; have GW387 := bge w hg; have GE387 := bge w hg; replace HB := bsq w hb; clear hb hbox hg) | ((with_reducible refine gate_callee (f := 59) rfl ?_); refine goesL_ (some 9) rfl rfl Tryz.func59 (by kernel_rfl) rfl #[.slice A1 l1.length c1] rfl ma ?_; (with_reducible refine (r8_Check.calls k _ _ l1 t388 _ ?side1 ?side2 A3.out).mono ?_); (case side1 => repeat (first | exact (Kd.C_below HR1.out HB.out) | (with_reducible refine Kd.C_alloc ?_ _) | (with_reducible refine Kd.C_drewN ?_ _) | (with_reducible refine Kd.C_drew ?_))); (case side2 => exact HC1.out); rintro e w42 ⟨rfl, hb⟩; refine ⟨_, rfl, ?_⟩; replace BK387 := bkb BK387 hb; replace HB := bsq w hb; (try clear hb); have hcz43_0 := bz0 BK387; have hcz43_1 := bz1 BK387; have hfz43_0 := blk_frozen BK387.out 0; have hfz43_1 := blk_frozen BK387.out 1))
  refine bodyPost_ret (results_ct rfl _ _ gb387 25 #[.int .i64 0, .int .i64 0] (0, 0) _ rfl (by (repeat refine dw ?_); refine blk_put (cs := #[.int .i64 0, .int .i64 0]) ?_ 1 _ rfl; (repeat refine dw ?_); refine blk_put (cs := #[.int .i64 0, .int .i64 0]) ?_ 0 _ rfl; (repeat refine dw ?_); exact BK387.out) Tryz.underlying25 rfl (by kernel_rfl)) rfl ?_
  exact ⟨fe, bbl⟩
abbrev sb (l : List UInt8) : ByteArray := ⟨l.toArray⟩
theorem sb_toList (l : List UInt8) : (sb l).toList = l := by rw [Lib.toList_data]
theorem eq_sb (s : ByteArray) : s = sb s.toList := by
 apply ByteArray.ext
 show s.data = s.toList.toArray
 rw [Lib.toList_data]
theorem rnum_is (n : Int) : r8_Num.f n = some (vNum n) := by
 unfold r8_Num.f vNum r8_Plus.f r8_Minus.f
 split
 ·rfl
 ·split <;> rfl
theorem ris_is (a b : Int) : r8_Is.f a b = some (decide (isV (a, b))) := by
 unfold r8_Is.f
 by_cases hv : isV (a, b)
 ·rw [decide_eq_true hv]
  rcases hv with ⟨h, h1, h2⟩ | ⟨h, h1⟩
  ·have h' : a = 1 := h
   have h1' : -1000000000000000 ≤ b := h1
   have h2' : b ≤ 1000000000000000 := h2
   rw [if_pos h', if_pos h1', decide_eq_true h2']
  ·have h' : a = 2 ∨ a = 3 ∨ a = 4 ∨ a = 5 := h
   have h1' : b = 0 := h1
   rw [if_neg (by omega), if_pos (by omega), if_pos (by omega), h1']; rfl
 ·rw [decide_eq_false hv]
  by_cases h1 : a = 1
  ·rw [if_pos h1]
   by_cases h2 : b ≥ -1000000000000000
   ·rw [if_pos h2]
    have h3 : ¬ b ≤ 1000000000000000 := fun h3 => hv (.inl ⟨h1, h2, h3⟩)
    rw [decide_eq_false h3]
   ·rw [if_neg h2]
  ·rw [if_neg h1]
   by_cases h2 : a ≥ 2
   ·rw [if_pos h2]
    by_cases h3 : a ≤ 5
    ·rw [if_pos h3]
     have h4 : ¬ b = 0 := fun h4 => hv (.inr ⟨by show a = 2 ∨ a = 3 ∨ a = 4 ∨ a = 5; omega, h4⟩)
     congr 1
     exact beq_false_of_ne h4
    ·rw [if_neg h3]
   ·rw [if_neg h2]
theorem badV_is (x : S25) : badV x = !decide (isV (x.f0, x.f1)) := rfl
theorem rd_at {xs : List S25} {i : Nat} (h : i < xs.length) : rd_T25 xs (i : Int) = xs[i] := by
 unfold rd_T25
 rw [Int.toNat_natCast, List.getD_eq_getElem?_getD, List.getElem?_eq_getElem h]; rfl
theorem check_loop (l : List S25) (hm : l.length ≤ 4611686018427387904) : ∀ (d i : Nat), i + d = l.length → Ev (fun k => r8_Check.l0 k l (i : Int)) (if (l.drop i).any badV then 80 else 0)
 | 0, i, h => by
  have e : l.drop i = [] := List.drop_of_length_le (by omega)
  rw [e]
  refine ⟨1, fun k hk => ?_⟩
  obtain ⟨k, rfl⟩ : ∃ n, k = n + 1 := ⟨k - 1, by omega⟩
  simp only [r8_Check.l0]
  rw [if_neg (by omega)]
  rfl
 | d + 1, i, h => by
  have hi : i < l.length := by omega
  have e4 : wrap64 ((i : Int) + 1) = ((i + 1 : Nat) : Int) := by rw [wrap_id (by omega) (by omega)]; omega
  have he : l.drop i = l[i] :: l.drop (i + 1) := List.drop_eq_getElem_cons hi
  have ih := check_loop l hm d (i + 1) (by omega)
  rw [he, List.any_cons, badV_is]
  by_cases hv : isV (l[i].f0, l[i].f1)
  ·rw [decide_eq_true hv]
   refine Ev.step (fun k => ?_) ih
   simp only [r8_Check.l0]
   rw [if_pos (by omega), if_pos (by omega), rd_at hi, ris_is, decide_eq_true hv]
   simp only [Option.bind_some, if_true]
   rw [e4]
  ·rw [decide_eq_false hv]
   refine ⟨1, fun k hk => ?_⟩
   obtain ⟨k, rfl⟩ : ∃ n, k = n + 1 := ⟨k - 1, by omega⟩
   simp only [r8_Check.l0]
   rw [if_pos (by omega), if_pos (by omega), rd_at hi, ris_is, decide_eq_false hv]
   simp
theorem check_ev (l : List S25) (hm : l.length ≤ 4611686018427387904) : Ev (fun k => r8_Check.f k l) (if l.any badV then 80 else 0) := by
 have h := check_loop l hm l.length 0 (by omega)
 rw [List.drop_zero] at h
 exact h
theorem one_step' {α : Type} {g : Nat → Option α} {r : α} (h : ∀ k, g (k + 1) = some r) : Ev g r := ⟨1, fun k hk => by
 obtain ⟨k, rfl⟩ : ∃ m, k = m + 1 := ⟨k - 1, by omega⟩
 exact h k⟩
theorem const_ev {α : Type} {g : Nat → Option α} {r : α} (h : ∀ k, g k = some r) : Ev g r := ⟨0, fun k _ => h k⟩
/-- The kinds of a value. -/
theorem isV_cases {a : V} (h : isV a) : (a.1 = 1 ∧ -1000000000000000 ≤ a.2 ∧ a.2 ≤ 1000000000000000) ∨ a = (2, 0) ∨ a = (3, 0) ∨ a = (4, 0) ∨ a = (5, 0) := by
 rcases h with h | ⟨h, h0⟩
 ·exact .inl h
 ·right
  obtain ⟨k, n⟩ := a
  have h0' : n = 0 := h0
  have h' : k = 2 ∨ k = 3 ∨ k = 4 ∨ k = 5 := h
  subst h0'
  rcases h' with rfl | rfl | rfl | rfl <;> simp
theorem rtrue_is {a : V} (h : isV a) : r8_True.f a.1 a.2 = some (vTrue a) := by
 rcases isV_cases h with ⟨h1, h2, h3⟩ | rfl | rfl | rfl | rfl
 ·obtain ⟨k, n⟩ := a
  have h1' : k = 1 := h1
  subst h1'
  unfold r8_True.f vTrue
  by_cases h0 : n = 0
  ·subst h0; rfl
  ·simp [h0]
 all_goals rfl
theorem rtruth_is (b : Bool) : r8_Truth.f b = some (vTruth b) := by cases b <;> rfl
theorem rsign_ev {a : V} (h : isV a) : Ev (fun k => r8_sign.f k a.1 a.2) (vSign (vRank a)) := by
 rcases isV_cases h with ⟨h1, h2, h3⟩ | rfl | rfl | rfl | rfl
 ·rw [rank_num h1]
  refine one_step' fun k => ?_
  unfold r8_sign.f vSign
  rw [if_neg (by omega)]
  simp only [r8_sign.j0]
  rcases Int.lt_trichotomy a.2 0 with hn | hn | hn
  ·rw [decide_eq_false (by omega), if_neg (by decide), if_neg (by omega), if_pos hn, if_pos hn]
  ·rw [decide_eq_false (by omega), if_neg (by decide), if_neg (by omega), if_neg (by omega), if_neg (by omega), if_pos hn]
  ·rw [decide_eq_true hn, if_pos rfl, if_neg (by omega), if_neg (by omega)]
 all_goals exact one_step' fun k => rfl
/-- A value, turned round. -/
def vTurn (a : V) : V := if a.1 = 4 then (5, 0) else if a.1 = 5 then (4, 0) else (a.1, -a.2)
theorem rturned_is {a : V} (h : isV a) : r8_turned.f a.1 a.2 = some (vTurn a) := by
 have hn := isV_n h
 unfold r8_turned.f vTurn
 rw [wrap_id (by omega) (by omega)]
 split
 ·rfl
 ·split <;> rfl
theorem turn_num {a : V} (h : isV a) (h2 : a.1 ≠ 2) (h3 : a.1 ≠ 3) : vTurn a = vNum (-vRank a) := by
 rcases isV_cases h with ⟨h1, hl, hu⟩ | rfl | rfl | rfl | rfl
 ·rw [rank_num h1]
  unfold vTurn vNum
  rw [if_neg (by omega), if_neg (by omega), if_neg (by omega), if_neg (by omega), h1]
 ·exact absurd rfl h2
 ·exact absurd rfl h3
 ·rfl
 ·rfl
theorem isV_turn {a : V} (h : isV a) : isV (vTurn a) := by
 rcases isV_cases h with ⟨h1, hl, hu⟩ | rfl | rfl | rfl | rfl
 ·unfold vTurn
  rw [if_neg (by omega), if_neg (by omega)]
  exact .inl ⟨h1, by show -1000000000000000 ≤ -a.2; omega, by show -a.2 ≤ 1000000000000000; omega⟩
 all_goals (unfold vTurn isV; decide)
theorem num_rank {a : V} (h : isV a) (h2 : a.1 ≠ 2) (h3 : a.1 ≠ 3) : vNum (vRank a) = a := by
 rcases isV_cases h with ⟨h1, hl, hu⟩ | rfl | rfl | rfl | rfl
 ·rw [rank_num h1]
  unfold vNum
  rw [if_neg (by omega), if_neg (by omega)]
  exact Prod.ext h1.symm rfl
 ·exact absurd rfl h2
 ·exact absurd rfl h3
 ·rfl
 ·rfl
theorem rless_ev {a b : V} (ha : isV a) (hb : isV b) (a2 : a.1 ≠ 2) (a3 : a.1 ≠ 3) (b2 : b.1 ≠ 2) (b3 : b.1 ≠ 3) : Ev (fun k => r8_Less.f k a.1 a.2 b.1 b.2) (decide (vRank a < vRank b)) := by
 refine one_step' fun k => ?_
 unfold r8_Less.f r8_num.f
 simp only [Option.bind_some, r8_Less.j0]
 rcases isV_cases ha with ⟨h1, hl, hu⟩ | rfl | rfl | rfl | rfl
 ·rcases isV_cases hb with ⟨g1, gl, gu⟩ | rfl | rfl | rfl | rfl
  ·rw [rank_num h1, rank_num g1]; simp [h1, g1]
  ·exact absurd rfl b2
  ·exact absurd rfl b3
  ·rw [rank_num h1]; have : vRank (4, 0) = 1000000000000001 := rfl
   rw [this]; simp [h1]; omega
  ·rw [rank_num h1]; have : vRank (5, 0) = -1000000000000001 := rfl
   rw [this]; simp [h1]; omega
 ·exact absurd rfl a2
 ·exact absurd rfl a3
 ·have e : vRank (4, 0) = 1000000000000001 := rfl
  rcases isV_cases hb with ⟨g1, gl, gu⟩ | rfl | rfl | rfl | rfl
  ·rw [rank_num g1, e]; simp [g1]; omega
  ·exact absurd rfl b2
  ·exact absurd rfl b3
  ·rfl
  ·rfl
 ·have e : vRank (5, 0) = -1000000000000001 := rfl
  rcases isV_cases hb with ⟨g1, gl, gu⟩ | rfl | rfl | rfl | rfl
  ·rw [rank_num g1, e]; simp [g1]; omega
  ·exact absurd rfl b2
  ·exact absurd rfl b3
  ·rfl
  ·rfl
theorem rank_eq {a b : V} (ha : isV a) (hb : isV b) (a2 : a.1 ≠ 2) (a3 : a.1 ≠ 3) (b2 : b.1 ≠ 2) (b3 : b.1 ≠ 3) : vRank a = vRank b ↔ a = b :=
 ⟨fun h => by rw [← num_rank ha a2 a3, ← num_rank hb b2 b3, h], fun h => by rw [h]⟩
theorem pair_beq (a b : V) : (a.1 == b.1 && (a.2 == b.2)) = decide (a = b) := by
 rw [Bool.eq_iff_iff, Bool.and_eq_true, beq_iff_eq, beq_iff_eq, decide_eq_true_iff]
 exact ⟨fun h => Prod.ext h.1 h.2, fun h => by rw [h]; exact ⟨rfl, rfl⟩⟩
theorem radd_ev {a b : V} (ha : isV a) (hb : isV b) : Ev (fun k => r8_add.f k a.1 a.2 b.1 b.2) (vAdd a b) := by
 have na := isV_n ha
 have nb := isV_n hb
 refine one_step' fun k => ?_
 unfold r8_add.f r8_num.f
 simp only [Option.bind_some, r8_add.j0, r8_num.f, r8_NaN.f, rnum_is]
 rw [wrap_id (by omega) (by omega)]
 unfold vAdd
 by_cases h1 : a.1 = 1
 ·by_cases g1 : b.1 = 1
  ·simp [h1, g1]
  ·simp [h1, g1]
 ·by_cases g1 : b.1 = 1
  ·simp [h1, g1]
  ·rw [pair_beq]
   by_cases he : a = b
   ·simp [h1, g1, he]
   ·simp [h1, g1, he]
theorem rbeyond_is (s : Int) : r8_beyond.f s = some (vInf s) := by
 unfold r8_beyond.f vInf r8_Plus.f r8_Minus.f r8_NaN.f
 rcases Int.lt_trichotomy s 0 with h | h | h
 ·rw [if_neg (by omega), if_pos h, if_neg (by omega), if_pos h]; rfl
 ·rw [if_neg (by omega), if_neg (by omega), if_pos h]; rfl
 ·rw [if_pos h, if_neg (by omega), if_neg (by omega)]; rfl
theorem rsize_is {n : Int} (h : -1000000000000000 ≤ n ∧ n ≤ 1000000000000000) : r8_size.f n = some (n * vSign n) := by
 unfold r8_size.f vSign
 rcases Int.lt_trichotomy n 0 with h' | h' | h'
 ·rw [if_pos h', if_pos h', wrap_id (by omega) (by omega)]; congr 1; omega
 ·rw [if_neg (by omega), if_neg (by omega), if_pos h', h']; rfl
 ·rw [if_neg (by omega), if_neg (by omega), if_neg (by omega), Int.mul_one]
theorem mul_split (w r y : Int) (hr0 : 0 ≤ r) (hr : r < 1000) (hy : 0 ≤ y) : (1000 * w + r) * y / 1000 = w * y + r * y / 1000 := by
 have e : (1000 * w + r) * y = r * y + 1000 * (w * y) := by rw [Int.add_mul, Int.mul_assoc, Int.add_comm]
 rw [e, Int.add_mul_ediv_left _ _ (by decide), Int.add_comm]
theorem inf_num {s q : Int} (hs : s = -1 ∨ s = 1) (hq : 1000000000000000 < q) : vInf s = vNum (s * q) := by
 rcases hs with rfl | rfl
 ·unfold vInf vNum
  rw [if_neg (by decide), if_pos (by decide), if_neg (by omega), if_pos (by omega)]
 ·unfold vInf vNum
  rw [if_neg (by decide), if_neg (by decide), if_pos (by omega)]
theorem rtimes_ev {a b : V} (ha : isV a) (hb : isV b) : Ev (fun k => r8_times.f k a.1 a.2 b.1 b.2) (vMul a b) := by
 have na := isV_n ha
 have nb := isV_n hb
 have sa := vSign_range (vRank a)
 have sb' := vSign_range (vRank b)
 have ew : wrap64 (vSign (vRank a) * vSign (vRank b)) = vSign (vRank a) * vSign (vRank b) := by
  rcases sa with sa | sa | sa <;> rcases sb' with sb' | sb' | sb' <;> rw [sa, sb'] <;> exact wrap_id (by omega) (by omega)
 have num : ∀ k, (r8_num.f a.1 a.2).bind (fun t295 => (if t295 = true then ((r8_num.f b.1 b.2).bind fun t296 => (r8_times.j0 k (wrap64 (vSign (vRank a) * vSign (vRank b))) (!t296) a.1 a.2 b.1 b.2)) else (r8_times.j0 k (wrap64 (vSign (vRank a) * vSign (vRank b))) true a.1 a.2 b.1 b.2))) = r8_times.j0 k (vSign (vRank a) * vSign (vRank b)) (!(decide (a.1 = 1 ∧ b.1 = 1))) a.1 a.2 b.1 b.2 := by
  intro k
  unfold r8_num.f
  rw [ew]
  by_cases h1 : a.1 = 1
  ·by_cases g1 : b.1 = 1
   ·simp [h1, g1]
   ·have g1' : (b.1 == 1) = false := beq_false_of_ne g1
    simp [h1, g1, g1']
  ·simp [h1]
 unfold r8_times.f
 refine Ev.bind (f := fun k t293 => ((r8_sign.f k b.1 b.2).bind fun t294 => ((r8_num.f a.1 a.2).bind fun t295 => (if t295 = true then ((r8_num.f b.1 b.2).bind fun t296 => (r8_times.j0 k (wrap64 (t293 * t294)) (!t296) a.1 a.2 b.1 b.2)) else (r8_times.j0 k (wrap64 (t293 * t294)) true a.1 a.2 b.1 b.2))))) (rsign_ev ha) ?_
 refine Ev.bind (f := fun k t294 => ((r8_num.f a.1 a.2).bind fun t295 => (if t295 = true then ((r8_num.f b.1 b.2).bind fun t296 => (r8_times.j0 k (wrap64 (vSign (vRank a) * t294)) (!t296) a.1 a.2 b.1 b.2)) else (r8_times.j0 k (wrap64 (vSign (vRank a) * t294)) true a.1 a.2 b.1 b.2)))) (rsign_ev hb) ?_
 refine Ev.congr num ?_
 unfold vMul
 by_cases h : a.1 = 1 ∧ b.1 = 1
 ·rw [decide_eq_true h, if_pos h, rank_num h.1, rank_num h.2]
  rw [rank_num h.1] at sa
  rw [rank_num h.2] at sb'
  obtain ⟨xa, ya⟩ := abs_sign a.2
  obtain ⟨xb, yb⟩ := abs_sign b.2
  have ra := rsize_is na
  have rb := rsize_is nb
  have hz1 : vSign a.2 = 0 → a.2 * vSign a.2 = 0 := fun h => by rw [h, Int.mul_zero]
  have hz2 : vSign b.2 = 0 → b.2 * vSign b.2 = 0 := fun h => by rw [h, Int.mul_zero]
  obtain ⟨x, hx⟩ : ∃ x, a.2 * vSign a.2 = x := ⟨_, rfl⟩
  obtain ⟨y, hy⟩ : ∃ y, b.2 * vSign b.2 = y := ⟨_, rfl⟩
  rw [hx] at xa ya ra hz1 ⊢
  rw [hy] at xb yb rb hz2 ⊢
  have bx : x ≤ 1000000000000000 := by omega
  have by' : y ≤ 1000000000000000 := by omega
  obtain ⟨sg, hsg⟩ : ∃ sg, vSign a.2 * vSign b.2 = sg := ⟨_, rfl⟩
  have hs3 : sg = -1 ∨ sg = 0 ∨ sg = 1 := by
   rw [← hsg]
   rcases sa with sa | sa | sa <;> rcases sb' with sb' | sb' | sb' <;> rw [sa, sb'] <;> simp
  have hs0 : sg = 0 → x = 0 ∨ y = 0 := fun h => by
   rw [← hsg] at h
   rcases Int.mul_eq_zero.1 h with h | h
   ·exact .inl (hz1 h)
   ·exact .inr (hz2 h)
  rw [hsg]
  obtain ⟨w, hw⟩ : ∃ w, x / 1000 = w := ⟨_, rfl⟩
  obtain ⟨r, hr⟩ : ∃ r, x % 1000 = r := ⟨_, rfl⟩
  have ex : x = 1000 * w + r := by omega
  have w0 : 0 ≤ w := by omega
  have w1 : w ≤ 1000000000000 := by omega
  have r0 : 0 ≤ r := by omega
  have r1 : r < 1000 := by omega
  have eq1 : wrap64 (Int.tdiv x 1000) = w := by rw [Int.tdiv_eq_ediv_of_nonneg xa, wrap_id (by omega) (by omega), hw]
  have eq2 : Int.tmod x 1000 = r := by rw [Int.tmod_eq_emod_of_nonneg xa, hr]
  have eq3 : x * y / 1000 = w * y + r * y / 1000 := by rw [ex]; exact mul_split w r y r0 r1 xb
  have ry0 : 0 ≤ r * y := Int.mul_nonneg r0 xb
  have ry1 : r * y ≤ 999 * 1000000000000000 := Int.le_trans (Int.mul_le_mul_of_nonneg_right (by omega) xb) (Int.mul_le_mul_of_nonneg_left by' (by omega))
  rw [eq3]
  refine Ev.step (f := fun k => r8_times.j1 k sg y w r (decide (0 < w ∧ y > 1000000000000000 / w))) (fun k => ?_) ?_
  ·simp only [r8_times.j0]
   rw [if_neg (by decide), ra, rb]
   simp only [Option.bind_some, eq1, eq2]
   by_cases hw0 : w > 0
   ·have hd0 : 0 ≤ 1000000000000000 / w := Int.ediv_nonneg (by decide) w0
    have hd1 : 1000000000000000 / w ≤ 1000000000000000 := Int.ediv_le_self _ (by decide)
    rw [if_pos hw0, if_neg (by omega), wrap_id (by omega) (by omega)]
    by_cases hy2 : y > 1000000000000000 / w
    ·rw [decide_eq_true hy2, decide_eq_true ⟨hw0, hy2⟩]
    ·rw [decide_eq_false hy2, decide_eq_false (fun h => hy2 h.2)]
   ·rw [if_neg hw0, decide_eq_false (fun h => hw0 h.1)]
  ·by_cases hb2 : 0 < w ∧ y > 1000000000000000 / w
   ·rw [decide_eq_true hb2]
    have hgt : 1000000000000000 < w * y := by
     have h1 := Int.lt_mul_of_ediv_lt hb2.1 hb2.2
     rw [Int.mul_comm] at h1
     omega
    have hsn : sg = -1 ∨ sg = 1 := by
     rcases hs3 with h | h | h
     ·exact .inl h
     ·rcases hs0 h with h | h
      ·omega
      ·rw [h, Int.mul_zero] at hgt; omega
     ·exact .inr h
    have hry : 0 ≤ r * y / 1000 := Int.ediv_nonneg ry0 (by decide)
    rw [← inf_num hsn (show 1000000000000000 < w * y + r * y / 1000 by omega)]
    refine one_step' fun k => ?_
    simp only [r8_times.j1, if_true]
    rw [rbeyond_is]
    rfl
   ·rw [decide_eq_false hb2]
    have hle : w * y ≤ 1000000000000000 := by
     by_cases hw0 : 0 < w
     ·have h1 : y ≤ 1000000000000000 / w := by
       rcases Int.lt_or_le (1000000000000000 / w) y with h | h
       ·exact absurd ⟨hw0, h⟩ hb2
       ·exact h
      have h2 := Int.mul_le_of_le_ediv hw0 h1
      rw [Int.mul_comm] at h2
      exact h2
     ·have : w = 0 := by omega
      rw [this, Int.zero_mul]; decide
    have hwy : 0 ≤ w * y := Int.mul_nonneg w0 xb
    have hq0 : 0 ≤ r * y / 1000 := Int.ediv_nonneg ry0 (by decide)
    have hq1 : r * y / 1000 ≤ 999000000000000 := by omega
    refine one_step' fun k => ?_
    simp only [r8_times.j1]
    rw [if_neg (by decide), wrap_id (n := w * y) (by omega) (by omega), wrap_id (n := r * y) (by omega) (by omega), Int.tdiv_eq_ediv_of_nonneg ry0, wrap_id (n := r * y / 1000) (by omega) (by omega), wrap_id (n := w * y + r * y / 1000) (by omega) (by omega)]
    have hss : wrap64 (sg * (w * y + r * y / 1000)) = sg * (w * y + r * y / 1000) := by
     rcases hs3 with h | h | h <;> rw [h] <;> exact wrap_id (by omega) (by omega)
    rw [hss, rnum_is]
    rfl
 ·rw [decide_eq_false h, if_neg h]
  refine one_step' fun k => ?_
  simp only [r8_times.j0]
  rw [if_pos (by decide), rbeyond_is]
  rfl
open Go.Proofs.YtcmiehddjgfjaaaGreat.St Go.Proofs.YtcmiehddjgfjaaaGreat.Stable
/-- What a list of the law's own becomes: the list, in a row. -/
theorem own_calls (A : Option Addr) (c : Nat) (l : List Ser) (hl : SersOk l) (w : World) (hr : Kd.C k37 w A l.length l) (hc : l.length ≤ c) :
  Calls Tryz.prog 15 #[.slice A l.length c] w fun e w' => ∃ (A' : Option Addr) (c' : Nat), e = .returned (.slice A' l.length c') ∧ Kd.N k37 37 w' w.heap.size (fun _ => True) (.slice A' l.length c') l ∧ Kd.C k37 w' A' l.length l ∧ l.length ≤ c' ∧ Below w.heap.size w w' := by
 obtain ⟨k, hk⟩ := (own_ev l hl).rounds
 refine (l10_own.calls k A c l l w hr hc hk).mono ?_
 rintro e w' ⟨v, rfl, hs, hb⟩
 have hN := Kd.S_N hs
 obtain ⟨A', c', rfl, h1, h2⟩ := Kd.N_reads hN
 exact ⟨A', c', rfl, hN, h2, h1, hb⟩
/-- series.Sort, of a row, told so. -/
theorem sort_calls' (A : Option Addr) (c : Nat) (l : List Ser) (hl : SersOk l) (w : World) (hr : Kd.C k37 w A l.length l) {s : List Ser} {e0 : Int} (hs : vSort l = (s, e0)) :
  Calls Tryz.prog 14 #[.slice A l.length c] w fun e w' => ∃ (A' : Option Addr) (c' : Nat), e = .returned (.tuple #[.slice A' s.length c', .int .i64 e0]) ∧ Kd.C k37 w' A' s.length s ∧ s.length ≤ c' ∧ Below w.heap.size w w' := by
 have h := ssort_calls A c l hl w hr
 rw [hs] at h
 refine h.mono ?_
 rintro e w' ⟨v, rfl, hN, hb⟩
 obtain ⟨A', c', rfl, h1, h2⟩ := Kd.N_reads hN
 exact ⟨A', c', rfl, h2, h1, hb⟩
/-- Element i of a list that came in. -/
theorem came_at {w : World} {A : Option Addr} {n : Nat} {l : List Ser} (hr : Kd.C k37 w A n l) (i : Nat) (hi : i < l.length) :
  ∃ ad A0 c0, A = some ad ∧ w.cell? (ad.add (i * 3)) = some (.slice A0 (l[i]).f0.length c0) ∧ w.cell? ⟨(ad.add (i * 3)).block, (ad.add (i * 3)).off + 1, none⟩ = some (.int .i64 (l[i]).f1.f0) ∧ w.cell? ⟨(ad.add (i * 3)).block, (ad.add (i * 3)).off + 2, none⟩ = some (.int .i64 (l[i]).f1.f1) ∧ Kd.FK k37 w (fun k => k < w.heap.size) l[i] [.slice A0 (l[i]).f0.length c0, .int .i64 (l[i]).f1.f0, .int .i64 (l[i]).f1.f1] := by
 have hn := hr.1
 obtain ⟨ad, c, rfl, hl, hK, hc, _⟩ := Kd.F_get (Kd.C_F heapSer hr) z37 (i : Int) (by omega) (by omega)
 rw [Int.toNat_natCast, List.getD_eq_getElem?_getD, List.getElem?_eq_getElem hi] at hK
 rw [Int.toNat_natCast] at hc
 obtain ⟨A0, c0, rfl, l0, g0⟩ := k37_open (Kd.FK_now hK)
 exact ⟨ad, A0, c0, rfl, hc 0 _ rfl, by rw [← add_field _ _ 1 (by omega)]; exact hc 1 _ rfl, by rw [← add_field _ _ 2 (by omega)]; exact hc 2 _ rfl, hK⟩
section
variable {P : Program} {ops : Array Oper} {rest : List Oper} {o : Oper} {a : Act} {Q : Exit → Act → World → Prop} {Kc : Act → World → Prop}
/-- append(v, ys...), the elements of ys told one by one. -/
theorem app37_step {wc W : World} (hw : Region.wanted o (yielded ops a.tmps) = true) (s x : Operand) (ho : o.op = .call { callee := .builtin .append, args := #[s, x], argTypes := #[33, 33] })
  (v : Value) (xs ys : List Ser) (A : Option Addr) (m c : Nat) (hs : a.eval s = v) (hx : a.eval x = .slice A m c)
  (HO : Kd.N k37 37 W wc.heap.size (fun _ => True) v xs) (HR : ReadsRow (fun x c => Kd.FK k37 W (fun k => k < wc.heap.size) x c) 3 W A m ys)
  (HB : Below wc.heap.size wc W) (hl : (xs.length + m) * 40 ≤ 140737488355328)
  (h : ∀ v1 w1, Kd.N k37 37 w1 wc.heap.size (fun _ => True) v1 (xs ++ ys) → Below wc.heap.size wc w1 → W.grownBy w1 v.ownBlock → Kc (a.put o.dst v1) w1) :
  if Region.wanted o (yielded ops a.tmps) = true then Oper.wp Tryz.prog o a W Kc Q else Kc (a.put o.dst undef) W := by
 have hnb := fun k => Kd.N_base HO k
 obtain ⟨h0, rows, hlr, hR, hf⟩ := HO
 obtain ⟨news, hnl, hnr, hnf⟩ := Kd.reads_raw HR (fun y c hk => ⟨k37.K_len (Kd.FK_now hk), k37.K_one (Kd.FK_now hk)⟩)
 refine Kd.R_append_rows_step (Kd.raw k37.sz) wc.heap.size hw s x 33 37 (.agg #[(.slice none 0 0), (.int .i64 0), (.int .i64 0)]) 40 ho Tryz.underlying33 info37 rfl (by decide) (by omega) v rows news A m c (fun _ => True) (fun _ => False) hs hx (Kd.raw_any hR) hnr (fun _ _ hk => hk) (fun _ hk => hk.elim) (fun _ _ => trivial) HB HB.size (by rw [hlr]; exact hl) ?_
 intro v1 w1 hr hb hg hat
 exact h v1 w1 (Kd.N_appended h0 hlr hf hnl hnf (fun k hk => ⟨trivial, fun e => by have := hnb k e.symm; omega⟩) (fun _ _ => trivial) hr hg hat) hb hg
end
theorem rowsF {wc W : World} {A : Option Addr} {m : Nat} {ys : List Ser} (h : Kd.F k37 wc (fun k => k < wc.heap.size) A m ys) (hb : Below wc.heap.size wc W) : ReadsRow (fun x c => Kd.FK k37 W (fun k => k < wc.heap.size) x c) 3 W A m ys := Kd.F_rows (Kd.F_below h hb)
theorem rowOne {wc W : World} {x : Ser} {cs : List Value} {g : Nat} (h : Kd.FK k37 wc (fun k => k < wc.heap.size) x cs) (hb : Below wc.heap.size wc W) (hk : W.heap[g]? = some (.cells cs.toArray 37 (0, 0))) : ReadsRow (fun x c => Kd.FK k37 W (fun k => k < wc.heap.size) x c) 3 W (some ⟨g, 0, none⟩) 1 [x] := by
 have h2 := Kd.FK_below h hb
 have hl : cs.length = 3 := k37.K_len (Kd.FK_now h2)
 refine ⟨rfl, by decide, fun _ => ⟨_, rfl, fun j p hj => ?_⟩⟩
 match j, hj with
 | 0, hj =>
  injection hj with hj
  subst hj
  refine ⟨cs, hl, h2, fun i u hu => ?_⟩
  have e := blk_cell hk i
  rw [Nat.zero_mul, Nat.zero_add, add_at, Nat.zero_add]
  exact e.trans (by rw [List.getElem?_toArray]; exact hu)
 | j + 1, hj => simp at hj
theorem hold3 {w w' : World} {ad : Addr} {A0 : Option Addr} {n c : Nat} {x y : Int} (h : w.cell? ad = some (.slice A0 n c) ∧ w.cell? ⟨ad.block, ad.off + 1, none⟩ = some (.int .i64 x) ∧ w.cell? ⟨ad.block, ad.off + 2, none⟩ = some (.int .i64 y)) (hb : Below w.heap.size w w') :
  w'.cell? ad = some (.slice A0 n c) ∧ w'.cell? ⟨ad.block, ad.off + 1, none⟩ = some (.int .i64 x) ∧ w'.cell? ⟨ad.block, ad.off + 2, none⟩ = some (.int .i64 y) :=
 ⟨pw_cell_below hb h.1, pw_cell_below hb h.2.1, pw_cell_below hb h.2.2⟩
theorem rcompare_calls (A B : Option Addr) (c d : Nat) (a b : List Lab) (ha : a.length < 4611686018427387904) (hb : b.length < 4611686018427387904) (hc : a.length ≤ c) (hd : b.length ≤ d) (w : World) (hA : Kd.C k62 w A a.length a) (hB : Kd.C k62 w B b.length b) :
  Calls Tryz.prog 67 #[.slice A a.length c, .slice B b.length d] w fun e w' => e = .returned (.int .i64 (cmpL a b)) ∧ Below w.heap.size w w' := by
 obtain ⟨k, hk⟩ := (compare_ev a b ha hb).rounds
 refine (r9_Compare.calls k A c a B d b _ w hA hc hB hd hk).mono fun e w' ⟨he, hw⟩ => ⟨he, ?_⟩
 obtain ⟨n, rfl⟩ := hw
 exact pbd (Below.refl _ _) n
theorem rsort_calls (A : Option Addr) (c : Nat) (l : List Ser) (hl : SersOk l) (w : World) (hr : Kd.C k37 w A l.length l) :
  Calls Tryz.prog 23 #[.slice A l.length c] w fun e w' => ∃ v : Value, e = .returned (.tuple #[v, .int .i64 (vSort l).2]) ∧ Kd.N k37 37 w' w.heap.size (fun _ => True) v (vSort l).1 ∧ Below w.heap.size w w' := by
 have mixed : Tryz.prog.follows .mixedOrders = true := by kernel_rfl
 generalize hrr : vSort l = r
 rw [vSort_doc] at hrr
 have HRR := Sd.mk hrr
 have HL := Sd.mk hr
 have HOK := Sd.mk hl
 have hmx : l.length < 3518437208883 := hl.1
 clear hrr hr hl
 go_enter Tryz.func23, Tryz.ntmps23
 go_wp2
 go_loopw [4] (fun v4 wr => ∃ i : Nat, i ≤ l.length ∧ v4 = .int .i64 i ∧ Sd (l.any (fun x => !isSet x.f0) = (l.drop i).any (fun x => !isSet x.f0)) ∧ Sd (Below w.heap.size w wr)) (fun v4 _ => l.length - (intOf v4).toNat)
 case atStart => exact ⟨0, Nat.zero_le _, rfl, ⟨rfl⟩, ⟨Below.refl _ _⟩⟩
 case round =>
  obtain ⟨i, hi, rfl, HT, HW⟩ := hrel
  by_cases hlt : i < l.length
  ·have b1 : (i : Int) < (l.length : Int) := by omega
   have b2 : (0 : Int) ≤ (i : Int) := by omega
   have HX := Sd.mk (HT.out.trans (any_next l i hlt))
   have hxo := HOK.out.2 _ (List.getElem_mem hlt)
   obtain ⟨ad, A0, c0, hA, o0, o1, o2, hK⟩ := came_at (Kd.C_below HL.out HW.out) i hlt
   subst hA
   obtain ⟨_, _, ecs, hlc, hLab⟩ := k37_open (Kd.FK_now hK)
   injection ecs with e1 _
   injection e1 with e1 _ e3
   subst e1
   subst e3
   have HC := Sd.mk (rset_calls A0 c0 l[i].f0 hxo.2 wr hLab)
   clear HT hlc hLab hK hxo
   generalize l[i].f0 = xl at o0 HC HX
   generalize isSet xl = b at HC HX
   cases b with
   | false =>
    have HZ := Sd.mk (show l.any (fun x => !isSet x.f0) = true by rw [HX.out]; rfl)
    go_wp2_with fail
    refine HC.out.mono ?_
    rintro e w1 ⟨rfl, hb1⟩
    have HB := Sd.mk (HW.out.trans (hb1.mono HW.out.size))
    clear hb1
    go_wp2
    go_ret2
    have er : r = ([], 90) := by rw [← HRR.out, if_pos HZ.out]
    exact ⟨.slice none 0 0, by rw [er]; rfl, by rw [er]; exact Kd.N_nil _ _ _ _ _, HB.out⟩
   | true =>
    have HZ := Sd.mk (show l.any (fun x => !isSet x.f0) = (l.drop (i + 1)).any (fun x => !isSet x.f0) by rw [HX.out]; rfl)
    go_wp2_with fail
    refine HC.out.mono ?_
    rintro e w1 ⟨rfl, hb1⟩
    have HB := Sd.mk (HW.out.trans (hb1.mono HW.out.size))
    clear hb1
    go_wp2
    go_roundw
    case rel => exact ⟨i + 1, by omega, by go_num, HZ, HB⟩
    case measure => simp [intOf]; omega
  ·have n1 : decide ((i : Int) < (l.length : Int)) = false := decide_eq_false (by omega)
   have n2 : decide (i < l.length) = false := decide_eq_false hlt
   have HZ1 := Sd.mk (show ¬ l.any (fun x => !isSet x.f0) = true by rw [HT.out, List.drop_of_length_le (by omega)]; decide)
   clear hlt hi HT
   rename World => wa
   go_wp2
   go_loopw [5] (fun v5 wr => ∃ i : Nat, i ≤ l.length ∧ v5 = .int .i64 i ∧ Sd (l.any badVal = (l.drop i).any badVal) ∧ Sd (Below w.heap.size w wr)) (fun v5 _ => l.length - (intOf v5).toNat)
   case atStart => exact ⟨0, Nat.zero_le _, rfl, ⟨rfl⟩, HW⟩
   case round =>
    clear HW n1 n2
    obtain ⟨i, hi, rfl, HT, HW⟩ := hrel
    by_cases hlt : i < l.length
    ·have b1 : (i : Int) < (l.length : Int) := by omega
     have b2 : (0 : Int) ≤ (i : Int) := by omega
     have HX := Sd.mk (HT.out.trans (any_next l i hlt))
     obtain ⟨ad, A0, c0, hA, o0, o1, o2, hK⟩ := came_at (Kd.C_below HL.out HW.out) i hlt
     subst hA
     have HC := Sd.mk (r8_Is.calls _ _ _ wr (ris_is l[i].f1.f0 l[i].f1.f1))
     have hbv : badVal l[i] = !decide (isV (l[i].f1.f0, l[i].f1.f1)) := rfl
     rw [hbv] at HX
     clear HT hK o0 hbv
     generalize decide (isV (l[i].f1.f0, l[i].f1.f1)) = b at HC HX
     generalize l[i].f1.f0 = y0 at o1 HC
     generalize l[i].f1.f1 = y1 at o2 HC
     cases b with
     | false =>
      have HZ := Sd.mk (show l.any badVal = true by rw [HX.out]; rfl)
      go_wp2_with fail
      refine HC.out.mono ?_
      rintro e w1 ⟨rfl, hb1⟩
      have HB := Sd.mk (HW.out.trans (hb1.mono HW.out.size))
      clear hb1
      go_wp2
      go_ret2
      have er : r = ([], 80) := by rw [← HRR.out, if_neg HZ1.out, if_pos HZ.out]
      exact ⟨.slice none 0 0, by rw [er]; rfl, by rw [er]; exact Kd.N_nil _ _ _ _ _, HB.out⟩
     | true =>
      have HZ := Sd.mk (show l.any badVal = (l.drop (i + 1)).any badVal by rw [HX.out]; rfl)
      go_wp2_with fail
      refine HC.out.mono ?_
      rintro e w1 ⟨rfl, hb1⟩
      have HB := Sd.mk (HW.out.trans (hb1.mono HW.out.size))
      clear hb1
      go_wp2
      go_roundw
      case rel => exact ⟨i + 1, by omega, by go_num, HZ, HB⟩
      case measure => simp [intOf]; omega
    ·have n1 : decide ((i : Int) < (l.length : Int)) = false := decide_eq_false (by omega)
     have n2 : decide (i < l.length) = false := decide_eq_false hlt
     have HZ2 := Sd.mk (show ¬ l.any badVal = true by rw [HT.out, List.drop_of_length_le (by omega)]; decide)
     have HR2 := Sd.mk (show docIns (insAll cmpSer [] l) = r by rw [← HRR.out, if_neg HZ1.out, if_neg HZ2.out])
     clear hlt hi HT HRR HZ1 HZ2
     rename World => wb
     go_wp2
     go_loopw [6, 7] (fun v6 v7 wr => ∃ (i : Nat) (out : List Ser), i ≤ l.length ∧ v7 = .int .i64 i ∧ Sd (insAll cmpSer [] (l.take i) = some out) ∧ Sd (Kd.N k37 37 wr w.heap.size (fun _ => True) v6 out) ∧ Sd (Below w.heap.size w wr)) (fun _ v7 _ => l.length - (intOf v7).toNat)
     case atStart => exact ⟨0, [], Nat.zero_le _, rfl, ⟨rfl⟩, ⟨Kd.N_nil _ _ _ _ _⟩, HW⟩
     case round =>
      clear HW n1 n2
      obtain ⟨i, out, hi, rfl, HT, HO, HW⟩ := hrel
      have hlen : out.length = i := by have := insAll_len HT.out; rw [List.length_take] at this; simp at this; omega
      by_cases hlt : i < l.length
      ·have HN := Sd.mk ((insAll_step cmpSer l i hlt).trans (by rw [HT.out]; rfl) : insAll cmpSer [] (l.take (i + 1)) = ins cmpSer out l[i])
       have b1 : (i : Int) < (l.length : Int) := by omega
       have b2 : (0 : Int) ≤ (i : Int) := by omega
       obtain ⟨A5, c5, rfl, hc5, hC5⟩ := Kd.N_reads HO.out
       have HC5 := Sd.mk hC5
       clear hC5
       have hoo : ∀ x ∈ out, x.f0.length < 4398046511104 ∧ LabsOk x.f0 := fun x hx => by
        rcases insAll_mem HT.out x hx with h | h
        ·cases h
        ·exact HOK.out.2 x (List.mem_of_mem_take h)
       have hxo := HOK.out.2 _ (List.getElem_mem hlt)
       rename World => wo
       obtain ⟨ad, A0, c0, hA, o0, o1, o2, hK⟩ := came_at (Kd.C_below HL.out HW.out) i hlt
       subst hA
       obtain ⟨_, _, ecs, hlc, hLab⟩ := k37_open (Kd.FK_now hK)
       injection ecs with e1 _
       injection e1 with e1 _ e3
       subst e1
       subst e3
       have HFK := Sd.mk hK
       have HLb := Sd.mk hLab
       have HOO := Sd.mk hoo
       have HXO := Sd.mk hxo
       have HLen := Sd.mk hlen
       have hol : out.length < l.length := by omega
       clear hK hLab hoo hxo HT hlen
       generalize hxi : l[i] = x at o0 o1 o2 HFK HLb HXO HN hlc
       clear hxi
       go_upto_block 6 with fail
       go_cut [8] from 41 to 61 (fun v8 wx => ∃ k : Nat, k ≤ out.length ∧ v8 = .int .i64 k ∧ Sd (Beh cmpSer out x k) ∧ Sd (∀ h : k < out.length, ¬ cmpSer out[k] x < 0) ∧ Sd (Below wo.heap.size wo wx))
       case first =>
        go_wp2_with fail
        go_loopw [8] (fun v8 wx => ∃ k : Nat, k ≤ out.length ∧ v8 = .int .i64 k ∧ Sd (Beh cmpSer out x k) ∧ Sd (Below wo.heap.size wo wx)) (fun v8 _ => out.length - (intOf v8).toNat)
        case atStart => exact ⟨0, Nat.zero_le _, rfl, ⟨Beh.zero _ _⟩, ⟨Below.refl _ _⟩⟩
        case round =>
         obtain ⟨k, hk, rfl, HBh, HB2⟩ := hrel
         rename World => wq
         by_cases hkl : k < out.length
         ·have m1 : (k : Int) < (out.length : Int) := by omega
          have m2 : (0 : Int) ≤ (k : Int) := by omega
          obtain ⟨ad5, Ak, ck, hA5, r0, _, _, hKk⟩ := came_at HC5.out k hkl
          subst hA5
          obtain ⟨_, _, ecs, hlk, hLk⟩ := k37_open (Kd.FK_now hKk)
          injection ecs with e1 _
          injection e1 with e1 _ e3
          subst e1
          subst e3
          have hok := HOO.out _ (List.getElem_mem hkl)
          have q0 := fun p : Bw wq => p.cell (pw_cell_below HB2.out r0)
          have t0 := fun p : Bw wq => p.cell (pw_cell_below HB2.out o0)
          have hcmp := fun p : Bw wq => p.at (rcompare_calls Ak A0 ck c0 out[k].f0 x.f0 hok.2.1 HXO.out.2.1 hlk hlc p.w (Kd.C_below hLk (HB2.out.trans (p.h.mono HB2.out.size))) (Kd.C_below HLb.out (HB2.out.trans (p.h.mono HB2.out.size))))
          obtain ⟨cr, hcr⟩ : ∃ cr, cmpL out[k].f0 x.f0 = cr := ⟨_, rfl⟩
          have hcs : cmpSer out[k] x = cr := hcr
          rw [hcr] at hcmp
          clear hKk hLk hcr hok r0
          by_cases hneg : cr < 0
          ·have HN2 := Sd.mk (HBh.out.next hkl (by rw [hcs]; exact hneg))
           clear hcs
           go_wp2_with fail
           refine wp_region_Bw (by assumption) (by kernel_rfl) ?_
           repeat (quiet_step ((go_at_call 67; exact hcmp _)))
           refine wpQuiet_nil ?_
           intro _ hw'
           obtain ⟨p, rfl⟩ := hw'
           have HP := Sd.mk (HB2.out.trans (p.h.mono HB2.out.size))
           go_wp2_with fail
           go_roundw
           case rel => exact ⟨k + 1, by omega, by go_num, HN2, HP⟩
           case measure => simp [intOf]; omega
          ·have HN2 := Sd.mk (fun h : k < out.length => (by rw [hcs]; exact hneg : ¬ cmpSer out[k] x < 0))
           clear hcs
           go_wp2_with fail
           refine wp_region_Bw (by assumption) (by kernel_rfl) ?_
           repeat (quiet_step ((go_at_call 67; exact hcmp _)))
           refine wpQuiet_nil ?_
           intro _ hw'
           obtain ⟨p, rfl⟩ := hw'
           have HP := Sd.mk (HB2.out.trans (p.h.mono HB2.out.size))
           go_wp2_with fail
           go_meet
           exact ⟨k, hk, rfl, HBh, HN2, HP⟩
         ·have dz : decide ((k : Int) < (out.length : Int)) = false := decide_eq_false (by omega)
          have dz2 : decide (k < out.length) = false := decide_eq_false hkl
          have HB3 := Sd.mk HB2.out.drew
          have HN2 := Sd.mk (fun h : k < out.length => (absurd h hkl : ¬ cmpSer out[k] x < 0))
          go_wp2_with fail
          go_big_region_o
          all_goals go_wp2
          go_meet
          exact ⟨k, hk, rfl, HBh, HN2, HB3⟩
       case rest =>
        obtain ⟨k, hk, rfl, HBh, HGe, HB2⟩ := hcut
        rename World => wx
        go_upto_region 18 with fail
        go_cut [78] from 61 to 78 (fun v wy => ∃ b : Bool, v = .bool b ∧ Sd (b = true → ins cmpSer out x = none) ∧ Sd (b = false → ins cmpSer out x = some (out.take k ++ x :: out.drop k)) ∧ Sd (Below wo.heap.size wo wy))
        case first =>
         by_cases hkl : k < out.length
         ·have m1 : (k : Int) < (out.length : Int) := by omega
          have m2 : (0 : Int) ≤ (k : Int) := by omega
          obtain ⟨ad5, Ak, ck, hA5, r0, _, _, hKk⟩ := came_at HC5.out k hkl
          subst hA5
          obtain ⟨_, _, ecs, hlk, hLk⟩ := k37_open (Kd.FK_now hKk)
          injection ecs with e1 _
          injection e1 with e1 _ e3
          subst e1
          subst e3
          have hok := HOO.out _ (List.getElem_mem hkl)
          have q0 := fun p : Bw wx => p.cell (pw_cell_below HB2.out r0)
          have t0 := fun p : Bw wx => p.cell (pw_cell_below HB2.out o0)
          have hcmp := fun p : Bw wx => p.at (rcompare_calls Ak A0 ck c0 out[k].f0 x.f0 hok.2.1 HXO.out.2.1 hlk hlc p.w (Kd.C_below hLk (HB2.out.trans (p.h.mono HB2.out.size))) (Kd.C_below HLb.out (HB2.out.trans (p.h.mono HB2.out.size))))
          obtain ⟨cr, hcr⟩ : ∃ cr, cmpL out[k].f0 x.f0 = cr := ⟨_, rfl⟩
          have hcs : cmpSer out[k] x = cr := hcr
          rw [hcr] at hcmp
          have hge := HGe.out hkl
          rw [hcs] at hge
          have H1 := Sd.mk (fun h : cr = 0 => HBh.out.there hkl (hcs.trans h))
          have H2 := Sd.mk (fun h : ¬ cr = 0 => HBh.out.put hk (fun hk2 => by rw [hcs]; omega))
          clear hKk hLk hcr hok r0 hcs
          go_wp2_with fail
          refine wp_region_Bw (by assumption) (by kernel_rfl) ?_
          repeat (quiet_step ((go_at_call 67; exact hcmp _)))
          refine wpQuiet_nil ?_
          intro _ hw'
          obtain ⟨p, rfl⟩ := hw'
          have HP := Sd.mk (HB2.out.trans (p.h.mono HB2.out.size))
          go_wp2
          go_meet
          refine ⟨_, rfl, ⟨fun h => H1.out (by simpa using h)⟩, ⟨fun h => H2.out (by simpa using h)⟩, HP⟩
         ·have dz : decide ((k : Int) < (out.length : Int)) = false := decide_eq_false (by omega)
          have dz2 : decide (k < out.length) = false := decide_eq_false hkl
          have HB3 := Sd.mk HB2.out.drew
          have HN2 := Sd.mk (HBh.out.put hk (fun hk2 => absurd hk2 hkl))
          go_wp2_with fail
          go_big_region_o
          all_goals go_wp2
          go_meet
          exact ⟨_, rfl, ⟨fun h => by cases h⟩, ⟨fun _ => HN2.out⟩, HB3⟩
        case rest =>
         obtain ⟨b, rfl, HY, HI, HB3⟩ := hcut
         rename World => wy
         clear HBh HGe HB2
         cases b with
         | true =>
          have HN3 := Sd.mk (insAll_none (HN.out.trans (HY.out rfl)))
          have HW3 := Sd.mk (HW.out.trans (HB3.out.mono HW.out.size))
          go_wp2
          go_ret2
          have er : r = ([], 8) := by rw [← HR2.out, HN3.out]; rfl
          exact ⟨.slice none 0 0, by rw [er]; rfl, by rw [er]; exact Kd.N_nil _ _ _ _ _, HW3.out⟩
         | false =>
          have HN3 := Sd.mk (HN.out.trans (HI.out rfl))
          have HW3 := Sd.mk (HW.out.trans (HB3.out.mono HW.out.size))
          have HFx := Sd.mk (Kd.FK_mono (Kd.FK_below HFK.out HB3.out) (fun k hk => Nat.lt_of_lt_of_le hk HB3.out.size))
          have hCF := Kd.C_F heapSer (Kd.C_below HC5.out HB3.out)
          have CF1 : Sd (Kd.F k37 wy (fun k => k < wy.heap.size) A5 k (out.take k)) := Sd.mk (by have := Kd.F_take hCF hk; rwa [List.length_take, Nat.min_eq_left hk] at this)
          obtain ⟨A6, hA6⟩ : ∃ A6, (if c5 = k then A5 else Option.map (fun x => x.add (k * 3)) A5) = A6 := ⟨_, rfl⟩
          have CF2 : Sd (Kd.F k37 wy (fun k => k < wy.heap.size) A6 (out.length - k) (out.drop k)) := Sd.mk (by have := Kd.F_cut hCF hk hc5; rw [List.length_drop] at this; rw [← hA6]; exact this)
          have hmc : k ≤ c5 := by omega
          have HPc := Sd.mk (And.intro (pw_cell_below HB3.out o0) (And.intro (pw_cell_below HB3.out o1) (pw_cell_below HB3.out o2)))
          obtain ⟨p0, p1, p2⟩ := HPc.out
          clear hCF o0 o1 o2 HB3 HFK HC5 HOO HI HN HY
          go_wp2_with fail
          go_region_held3 (fun w' => w'.cell? (ad.add (i * 3)) = some (.slice A0 x.f0.length c0) ∧ w'.cell? ⟨(ad.add (i * 3)).block, (ad.add (i * 3)).off + 1, none⟩ = some (.int .i64 x.f1.f0) ∧ w'.cell? ⟨(ad.add (i * 3)).block, (ad.add (i * 3)).off + 2, none⟩ = some (.int .i64 x.f1.f1))
           (first | go_keep | (exact hold3 HPc.out hbn))
           (first
            | (refine app37_step (wc := wy) (by rfl) (.tmp 79) (.tmp 82) rfl _ [] (out.take k) A5 k c5 rfl rfl (Kd.R_N (lit_none k37 37 (by first | exact blk_new _ _ | exact blk_new2 _ _ _ | exact blk_old (blk_new _ _)) (by first | exact Nat.le_refl _ | exact Nat.le_succ _ | exact size_new _ _))) (rowsF CF1.out (by first | exact (Below.refl _ _).drew.alloc (Nat.le_refl _) _ | exact ((Below.refl _ _).drew.alloc (Nat.le_refl _) _).alloc (size_new _ _) _)) (by first | exact (Below.refl _ _).drew.alloc (Nat.le_refl _) _ | exact ((Below.refl _ _).drew.alloc (Nat.le_refl _) _).alloc (size_new _ _) _) (by simp only [List.length_nil, List.length_take, List.length_append, List.length_singleton]; omega) ?_; intro v83 w83 ho83 hbn hg83)
            | (refine app37_step (wc := wy) (by rfl) (.tmp 83) (.tmp 88) rfl v83 (out.take k) [x] _ 1 1 rfl rfl (Kd.N_below ho83 (bal (Below.refl _ _) _)) (rowOne HFx.out (hbn.alloc hbn.size _) (g := w83.heap.size) (blk_new w83 _)) (hbn.alloc hbn.size _) (by simp only [List.length_nil, List.length_take, List.length_append, List.length_singleton]; omega) ?_; intro v89 w89 ho89 hbn hg89)
            | (refine app37_step (wc := wy) (by rfl) (.tmp 83) (.tmp 88) rfl v83 (out.take k) [x] _ 1 1 rfl rfl ho83 (rowOne HFx.out hbn (g := wy.heap.size) (blk_grown (by first | exact blk_new _ _ | exact blk_new2 _ _ _ | exact blk_old (blk_new _ _)) hg83 (ne_own (by first | exact Nat.succ_ne_self wy.heap.size | exact (Nat.succ_ne_self wy.heap.size).symm)))) hbn (by simp only [List.length_nil, List.length_take, List.length_append, List.length_singleton]; omega) ?_; intro v89 w89 ho89 hbn hg89)
            | (refine app37_step (wc := wy) (by rfl) (.tmp 83) (.tmp 88) rfl v83 (out.take k) [x] _ 1 1 rfl rfl ho83 (rowOne HFx.out hbn (g := wy.heap.size + 1) (blk_grown (by first | exact blk_new _ _ | exact blk_new2 _ _ _ | exact blk_old (blk_new _ _)) hg83 (ne_own (by first | exact Nat.succ_ne_self wy.heap.size | exact (Nat.succ_ne_self wy.heap.size).symm)))) hbn (by simp only [List.length_nil, List.length_take, List.length_append, List.length_singleton]; omega) ?_; intro v89 w89 ho89 hbn hg89)
            | (refine app37_step (wc := wy) (by rfl) (.tmp 89) (.tmp 92) rfl _ (out.take k ++ [x]) (out.drop k) A6 (out.length - k) (c5 - k) rfl rfl ho89 (rowsF CF2.out hbn) hbn (by simp only [List.length_nil, List.length_take, List.length_append, List.length_singleton]; omega) ?_; intro v93 w93 ho93 hbn hg93))
          all_goals
           have HF := Sd.mk (show insAll cmpSer [] (l.take (i + 1)) = some (out.take k ++ [x] ++ out.drop k) from by rw [HN3.out]; simp)
           have HO2 := Sd.mk (Kd.N_lower ho93 HW3.out.size)
           have HB4 := Sd.mk (HW3.out.trans (hbn.mono HW3.out.size))
           clear ho83 ho89 ho93 hbn hg83 hg89 hg93
           go_wp2
           go_roundw
           case measure => simp [intOf]; omega
           case rel => exact ⟨i + 1, _, by omega, by go_num, HF, HO2, HB4⟩
      ·have n1 : decide ((i : Int) < (l.length : Int)) = false := decide_eq_false (by omega)
       have n2 : decide (i < l.length) = false := decide_eq_false hlt
       have HI := Sd.mk (show insAll cmpSer [] l = some out by have := HT.out; rwa [List.take_of_length_le (by omega)] at this)
       obtain ⟨A5, c5, rfl, hc5, hC5⟩ := Kd.N_reads HO.out
       clear hlt hi HT hC5
       by_cases h200 : 200 < out.length
       ·have ER := Sd.mk (show r = ([], 6) by rw [← HR2.out, HI.out]; exact if_pos h200)
        have d1 : decide ((out.length : Int) > 200) = true := decide_eq_true (by omega)
        have d2 : decide (200 < out.length) = true := decide_eq_true h200
        clear h200 hlen
        go_wp2
        go_ret2
        have er := ER.out
        exact ⟨.slice none 0 0, by rw [er]; rfl, by rw [er]; exact Kd.N_nil _ _ _ _ _, HW.out⟩
       ·have ER := Sd.mk (show r = (out, 0) by rw [← HR2.out, HI.out]; exact if_neg h200)
        have d1 : decide ((out.length : Int) > 200) = false := decide_eq_false (by omega)
        have d2 : decide (200 < out.length) = false := decide_eq_false h200
        clear h200 hlen
        go_wp2
        go_ret2
        have er := ER.out
        exact ⟨_, by rw [er]; rfl, by rw [er]; exact HO.out, HW.out⟩
/-- series.Map, of a row, told so. -/
theorem map_calls' (op : ByteArray) (A : Option Addr) (c : Nat) (l : List Ser) (hl : SersOk l) (w : World) (hr : Kd.C k37 w A l.length l) {s : List Ser} {e0 : Int} (hs : vMap op l = (s, e0)) :
  Calls Tryz.prog 21 #[.string op, .slice A l.length c] w fun e w' => ∃ (A' : Option Addr) (c' : Nat), e = .returned (.tuple #[.slice A' s.length c', .int .i64 e0]) ∧ Kd.C k37 w' A' s.length s ∧ s.length ≤ c' ∧ Below w.heap.size w w' := by
 have h := smap_calls op A c l hl w hr
 rw [hs] at h
 refine h.mono ?_
 rintro e w' ⟨v, rfl, hN, hb⟩
 obtain ⟨A', c', rfl, h1, h2⟩ := Kd.N_reads hN
 exact ⟨A', c', rfl, h2, h1, hb⟩
def scal (v : V) : Ser := ⟨[], ⟨v.1, v.2⟩⟩
theorem rover_ev {a b : V} (ha : isV a) (hb : isV b) (a2 : a.1 ≠ 2) (a3 : a.1 ≠ 3) (b2 : b.1 ≠ 2) (b3 : b.1 ≠ 3) : Ev (fun k => r8_over.f k a.1 a.2 b.1 b.2) (vDiv a b) := by
 have na := isV_n ha
 have nb := isV_n hb
 have hnum : ∀ x y : Int, r8_num.f x y = some (x == 1) := fun _ _ => rfl
 have e3 : wrap64 ((a.2 * 1000).tdiv b.2) = (a.2 * 1000).tdiv b.2 := by
  have h := Int.natAbs_tdiv_le_natAbs (a.2 * 1000) b.2
  exact wrap_id (by omega) (by omega)
 have e2 : wrap64 (a.2 * 1000) = a.2 * 1000 := wrap_id (by omega) (by omega)
 unfold vDiv
 by_cases h1 : a.1 = 1
 ·by_cases g1 : b.1 = 1
  ·rw [if_pos g1, if_pos h1]
   by_cases h0 : b.2 = 0
   ·rw [if_pos h0]
    have hs := rsign_ev ha
    rw [rank_num h1] at hs
    have hinf : vInf (vSign a.2) = vInf a.2 := by
     rcases Int.lt_trichotomy a.2 0 with h | h | h
     ·have e : vSign a.2 = -1 := by unfold vSign; rw [if_pos h]
      rw [e]; unfold vInf; rw [if_neg (by decide), if_pos (by decide), if_neg (by omega), if_pos h]
     ·rw [h]; rfl
     ·have e : vSign a.2 = 1 := by unfold vSign; rw [if_neg (by omega), if_neg (by omega)]
      rw [e]; unfold vInf; rw [if_neg (by decide), if_neg (by decide), if_neg (by omega), if_neg (by omega)]
    refine Ev.congr (f := fun k => r8_over.j0 k true a.1 a.2 b.1 b.2) (fun k => ?_) ?_
    ·unfold r8_over.f
     simp only [hnum, Option.bind_some, h1, g1, h0]
     rfl
    ·refine Ev.step (f := fun k => (r8_sign.f k a.1 a.2).bind fun t310 => ((r8_beyond.f t310).bind fun bt311 => (some (bt311.1, bt311.2)))) (fun k => ?_) ?_
     ·simp only [r8_over.j0, if_true]
     ·refine Ev.bind (f := fun k t310 => ((r8_beyond.f t310).bind fun bt311 => (some (bt311.1, bt311.2)))) hs ⟨0, fun k _ => ?_⟩
      show (r8_beyond.f (vSign a.2)).bind _ = _
      rw [rbeyond_is, hinf]; rfl
   ·rw [if_neg h0]
    have q1 : Ev (fun k => r8_over.j1 k true a.1 a.2 b.1 b.2) (vNum ((a.2 * 1000).tdiv b.2)) := by
     refine one_step' fun k => ?_
     simp only [r8_over.j1, if_true]
     rw [if_neg h0, e2, e3, rnum_is]; rfl
    refine Ev.congr (f := fun k => r8_over.j0 k false a.1 a.2 b.1 b.2) (fun k => ?_) (Ev.step (fun k => ?_) q1)
    ·unfold r8_over.f
     rw [beq_false_of_ne h0]
     simp only [hnum, Option.bind_some, h1, g1]
     rfl
    ·simp only [r8_over.j0, hnum, Option.bind_some, h1, g1]
     rfl
  ·rw [if_neg g1, if_pos h1]
   have g1' : (b.1 == 1) = false := beq_false_of_ne g1
   have q1 : Ev (fun k => r8_over.j1 k false a.1 a.2 b.1 b.2) (vNum 0) := by
    refine one_step' fun k => ?_
    simp only [r8_over.j1, hnum, Option.bind_some, h1, g1', rnum_is]
    rfl
   refine Ev.congr (f := fun k => r8_over.j0 k false a.1 a.2 b.1 b.2) (fun k => ?_) (Ev.step (fun k => ?_) q1)
   ·unfold r8_over.f
    simp only [hnum, Option.bind_some, h1, g1']
    rfl
   ·simp only [r8_over.j0, hnum, Option.bind_some, h1, g1']
    rfl
 ·have h1' : (a.1 == 1) = false := beq_false_of_ne h1
  have start : ∀ {r : Int × Int}, Ev (fun k => r8_over.j1 k false a.1 a.2 b.1 b.2) r → Ev (fun k => r8_over.f k a.1 a.2 b.1 b.2) r := fun q1 => by
   refine Ev.congr (f := fun k => r8_over.j0 k false a.1 a.2 b.1 b.2) (fun k => ?_) (Ev.step (fun k => ?_) q1)
   ·unfold r8_over.f
    simp only [hnum, Option.bind_some, h1']
    rfl
   ·simp only [r8_over.j0, hnum, Option.bind_some, h1']
    rfl
  refine start ?_
  by_cases g1 : b.1 = 1
  ·rw [if_pos g1, if_neg h1]
   refine Ev.step (f := fun k => r8_over.j2 k (decide (b.2 < 0)) a.1 a.2 b.1 b.2) (fun k => ?_) ?_
   ·simp only [r8_over.j1, hnum, Option.bind_some, h1', g1]
    rfl
   ·by_cases hn : b.2 < 0
    ·rw [if_pos hn, decide_eq_true hn]
     refine one_step' fun k => ?_
     simp only [r8_over.j2, if_true]
     rw [rturned_is ha, turn_num ha a2 a3]; rfl
    ·rw [if_neg hn, decide_eq_false hn]
     refine one_step' fun k => ?_
     simp only [r8_over.j2, hnum, Option.bind_some, g1]
     rfl
  ·have g1' : (b.1 == 1) = false := beq_false_of_ne g1
   rw [if_neg g1, if_neg h1]
   refine Ev.step (f := fun k => r8_over.j2 k false a.1 a.2 b.1 b.2) (fun k => ?_) ?_
   ·simp only [r8_over.j1, hnum, Option.bind_some, h1', g1']
    rfl
   ·refine one_step' fun k => ?_
    simp only [r8_over.j2, hnum, Option.bind_some, g1']
    rfl
/-- An operation's answer, with whether there is one. -/
def one3 (op : ByteArray) (a : V) : Int × Int × Bool := match tab1.lookup op with | some F => ((F a).1, (F a).2, true) | none => (0, 0, false)
theorem sb_inj {a b : ByteArray} : a.toList = b.toList ↔ a = b := ⟨fun h => by rw [eq_sb a, eq_sb b, h], fun h => by rw [h]⟩
theorem ba_ne {a b : ByteArray} (h : a ≠ b) : (a == b) = false := by
 rcases a with ⟨a⟩
 rcases b with ⟨b⟩
 have h' : a ≠ b := fun e => h (by rw [e])
 show (a == b) = false
 exact beq_false_of_ne h'
theorem op_ne {op : ByteArray} {l : List UInt8} (h : op ≠ sb l) : ¬ op.toList = l := fun h' => h (by rw [eq_sb op, h'])
theorem floor_eq (n : Int) : n - (n.tmod 1000 + 1000).tmod 1000 = if n.tmod 1000 < 0 then n - (n.tmod 1000 + 1000) else n - n.tmod 1000 := by
 have h1 := Int.tmod_lt_of_pos n (show (0 : Int) < 1000 by decide)
 have h2 := Int.lt_tmod_of_pos n (show (0 : Int) < 1000 by decide)
 rw [Int.tmod_eq_emod_of_nonneg (show 0 ≤ n.tmod 1000 + 1000 by omega)]
 split <;> omega
theorem one_j0_cases {op : ByteArray} {a : V} (ha : isV a) (hop : op = sb [45] ∨ op = sb [97, 98, 115] ∨ op = sb [102, 108, 111, 111, 114] ∨ op = sb [33]) : Ev (fun k => r8_one.j0 k op a.1 a.2) (one3 op a) := by
 have hnum : ∀ x y : Int, r8_num.f x y = some (x == 1) := fun _ _ => rfl
 have na := isV_n ha
 have t1 : (sb [45]).toList = [45] := sb_toList _
 have t2 : (sb [97, 98, 115]).toList = [97, 98, 115] := sb_toList _
 have t3 : (sb [102, 108, 111, 111, 114]).toList = [102, 108, 111, 111, 114] := sb_toList _
 have t4 : (sb [33]).toList = [33] := sb_toList _
 have o1 : one3 (sb [45]) a = ((vPlain (fun n => -n) a).1, (vPlain (fun n => -n) a).2, true) := rfl
 have o2 : one3 (sb [97, 98, 115]) a = ((vPlain vMax a).1, (vPlain vMax a).2, true) := rfl
 have o3 : one3 (sb [102, 108, 111, 111, 114]) a = ((vFloor a).1, (vFloor a).2, true) := rfl
 have o4 : one3 (sb [33]) a = ((vNot a).1, (vNot a).2, true) := rfl
 by_cases h2 : a.1 = 2
 ·have e : one3 op a = (a.1, a.2, true) := by
   rcases hop with rfl | rfl | rfl | rfl
   ·rw [o1]; unfold vPlain; rw [if_pos h2]
   ·rw [o2]; unfold vPlain; rw [if_pos h2]
   ·rw [o3]; unfold vFloor; rw [if_neg (by omega)]
   ·rw [o4]; unfold vNot; rw [if_pos h2]
  rw [e]
  refine one_step' fun k => ?_
  simp only [r8_one.j0]
  rw [if_pos h2]
 ·by_cases h4 : op = sb [33]
  ·subst h4
   rw [o4]
   refine one_step' fun k => ?_
   simp only [r8_one.j0]
   rw [if_neg h2, t4, if_pos rfl, rtrue_is ha]
   simp only [Option.bind_some, rtruth_is]
   unfold vNot
   rw [if_neg h2]
  ·by_cases h3 : a.1 = 3
   ·have e : one3 op a = (a.1, a.2, true) := by
     rcases hop with rfl | rfl | rfl | rfl
     ·rw [o1]; unfold vPlain; rw [if_neg h2, if_pos h3]
     ·rw [o2]; unfold vPlain; rw [if_neg h2, if_pos h3]
     ·rw [o3]; unfold vFloor; rw [if_neg (by omega)]
     ·exact absurd rfl h4
    rw [e]
    refine one_step' fun k => ?_
    simp only [r8_one.j0]
    rw [if_neg h2, if_neg (op_ne h4), if_pos h3]
   ·have turn : Ev (fun k => r8_one.j1 k op true a.1 a.2) ((vTurn a).1, (vTurn a).2, true) := by
     refine one_step' fun k => ?_
     simp only [r8_one.j1, if_true]
     rw [rturned_is ha]; rfl
    rcases hop with rfl | rfl | rfl | rfl
    ·rw [o1]
     have e : vPlain (fun n => -n) a = vTurn a := by
      unfold vPlain; rw [if_neg h2, if_neg h3, turn_num ha h2 h3]
     rw [e]
     refine Ev.step (fun k => ?_) turn
     simp only [r8_one.j0]
     rw [if_neg h2, if_neg (op_ne h4), if_neg h3, t1, if_pos rfl]
    ·rw [o2]
     have hsr : decide (vSign (vRank a) < 0) = decide (vRank a < 0) := by
      unfold vSign
      rcases Int.lt_trichotomy (vRank a) 0 with h | h | h
      ·rw [if_pos h, decide_eq_true h]; rfl
      ·rw [if_neg (by omega), if_pos h, decide_eq_false (show ¬ vRank a < 0 by omega)]; rfl
      ·rw [if_neg (by omega), if_neg (by omega), decide_eq_false (show ¬ vRank a < 0 by omega)]; rfl
     refine Ev.step (f := fun k => (r8_sign.f k a.1 a.2).bind fun t258 => (r8_one.j1 k (sb [97, 98, 115]) (decide (t258 < 0)) a.1 a.2)) (fun k => ?_) ?_
     ·simp only [r8_one.j0]
      rw [if_neg h2, if_neg (op_ne h4), if_neg h3, t2, if_neg (by decide), if_pos rfl]
     ·refine Ev.bind (f := fun k t258 => (r8_one.j1 k (sb [97, 98, 115]) (decide (t258 < 0)) a.1 a.2)) (rsign_ev ha) ?_
      rw [hsr]
      by_cases hn : vRank a < 0
      ·rw [decide_eq_true hn]
       have e : vPlain vMax a = vTurn a := by
        unfold vPlain vMax; rw [if_neg h2, if_neg h3, if_pos (by omega), turn_num ha h2 h3]
       rw [e]
       exact turn
      ·rw [decide_eq_false hn]
       have e : vPlain vMax a = a := by
        unfold vPlain vMax; rw [if_neg h2, if_neg h3]
        by_cases h0 : vRank a < -vRank a
        ·omega
        ·rw [if_neg h0, num_rank ha h2 h3]
       rw [e]
       have q : Ev (fun k => r8_one.j2 k false a.1 a.2) (a.1, a.2, true) := one_step' fun k => by simp [r8_one.j2]
       refine Ev.step (fun k => ?_) q
       simp only [r8_one.j1]
       rw [if_neg (by decide), t2, if_neg (by decide)]
    ·rw [o3]
     refine Ev.step (f := fun k => r8_one.j1 k (sb [102, 108, 111, 111, 114]) false a.1 a.2) (fun k => ?_) (Ev.step (f := fun k => r8_one.j2 k (a.1 == 1) a.1 a.2) (fun k => ?_) ?_)
     ·simp only [r8_one.j0]
      rw [if_neg h2, if_neg (op_ne h4), if_neg h3, t3, if_neg (by decide), if_neg (by decide)]
     ·simp only [r8_one.j1]
      rw [if_neg (by decide), t3, if_pos rfl, hnum]; rfl
     ·refine one_step' fun k => ?_
      simp only [r8_one.j2]
      unfold vFloor
      by_cases h1 : a.1 = 1
      ·rw [h1, if_pos (show ((1 : Int) == 1) = true from rfl), if_pos (show (1 : Int) = 1 from rfl), floor_eq]
       have hm1 := Int.tmod_lt_of_pos a.2 (show (0 : Int) < 1000 by decide)
       have hm2 := Int.lt_tmod_of_pos a.2 (show (0 : Int) < 1000 by decide)
       by_cases hn : a.2.tmod 1000 < 0
       ·rw [if_pos hn, if_pos hn, wrap_id (n := a.2.tmod 1000 + 1000) (by omega) (by omega), wrap_id (by omega) (by omega), rnum_is]; rfl
       ·rw [if_neg hn, if_neg hn, wrap_id (by omega) (by omega), rnum_is]; rfl
      ·rw [beq_false_of_ne h1, if_neg (by decide), if_neg h1]
    ·exact absurd rfl h4
theorem one_ev (op : ByteArray) {a : V} (ha : isV a) : Ev (fun k => r8_one.f k op a.1 a.2) (one3 op a) := by
 have hnum : ∀ x y : Int, r8_num.f x y = some (x == 1) := fun _ _ => rfl
 have key : ∀ l : List UInt8, (sb l).toList = l := sb_toList
 by_cases c1 : op = sb [105, 115, 95, 110, 117, 108, 108]
 ·subst c1
  refine const_ev fun k => ?_
  unfold r8_one.f
  rw [key, if_pos rfl, rtruth_is]
  have : one3 (sb [105, 115, 95, 110, 117, 108, 108]) a = ((vKind [2] a).1, (vKind [2] a).2, true) := rfl
  rw [this]; unfold vKind; simp
 by_cases c2 : op = sb [105, 115, 95, 110, 97, 110]
 ·subst c2
  refine const_ev fun k => ?_
  unfold r8_one.f
  rw [key, if_neg (by decide), if_pos rfl, rtruth_is]
  have : one3 (sb [105, 115, 95, 110, 97, 110]) a = ((vKind [3] a).1, (vKind [3] a).2, true) := rfl
  rw [this]; unfold vKind; simp
 by_cases c3 : op = sb [105, 115, 95, 105, 110, 102]
 ·subst c3
  refine const_ev fun k => ?_
  unfold r8_one.f
  rw [key, if_neg (by decide), if_neg (by decide), if_pos rfl, rtruth_is, rtruth_is]
  have : one3 (sb [105, 115, 95, 105, 110, 102]) a = ((vKind [4, 5] a).1, (vKind [4, 5] a).2, true) := rfl
  rw [this]; unfold vKind
  by_cases h4 : a.1 = 4
  ·simp [h4]
  ·have h4' : (a.1 == 4) = false := beq_false_of_ne h4
   simp [h4, h4']
 by_cases c4 : op = sb [105, 115, 95, 110, 117, 109, 98, 101, 114]
 ·subst c4
  refine const_ev fun k => ?_
  unfold r8_one.f
  rw [key, if_neg (by decide), if_neg (by decide), if_neg (by decide), if_pos rfl, hnum]
  simp only [Option.bind_some, rtruth_is]
  have : one3 (sb [105, 115, 95, 110, 117, 109, 98, 101, 114]) a = ((vKind [1] a).1, (vKind [1] a).2, true) := rfl
  rw [this]; unfold vKind; simp
 have n1 := op_ne c1
 have n2 := op_ne c2
 have n3 := op_ne c3
 have n4 := op_ne c4
 by_cases c5 : op = sb [45]
 ·refine Ev.congr (fun k => ?_) (one_j0_cases ha (.inl c5))
  unfold r8_one.f
  rw [if_neg n1, if_neg n2, if_neg n3, if_neg n4, if_pos (by rw [c5, key])]
 by_cases c6 : op = sb [97, 98, 115]
 ·refine Ev.congr (fun k => ?_) (one_j0_cases ha (.inr (.inl c6)))
  unfold r8_one.f
  rw [if_neg n1, if_neg n2, if_neg n3, if_neg n4, if_neg (op_ne c5), if_pos (by rw [c6, key])]
 by_cases c7 : op = sb [102, 108, 111, 111, 114]
 ·refine Ev.congr (fun k => ?_) (one_j0_cases ha (.inr (.inr (.inl c7))))
  unfold r8_one.f
  rw [if_neg n1, if_neg n2, if_neg n3, if_neg n4, if_neg (op_ne c5), if_neg (op_ne c6), if_pos (by rw [c7, key])]
 by_cases c8 : op = sb [33]
 ·refine Ev.congr (fun k => ?_) (one_j0_cases ha (.inr (.inr (.inr c8))))
  unfold r8_one.f
  rw [if_neg n1, if_neg n2, if_neg n3, if_neg n4, if_neg (op_ne c5), if_neg (op_ne c6), if_neg (op_ne c7), if_pos (by rw [c8, key])]
 ·have hl : tab1.lookup op = none := by
   have f : ∀ {l : List UInt8}, op ≠ sb l → (op == sb l) = false := fun h => ba_ne h
   unfold tab1
   simp only [List.lookup, f c1, f c2, f c3, f c4, f c5, f c6, f c7, f c8]
  have e : one3 op a = (0, 0, false) := by unfold one3; rw [hl]
  rw [e]
  refine const_ev fun k => ?_
  unfold r8_one.f
  rw [if_neg n1, if_neg n2, if_neg n3, if_neg n4, if_neg (op_ne c5), if_neg (op_ne c6), if_neg (op_ne c7), if_neg (op_ne c8)]
/-- An operation of two values, with whether there is one. -/
def two3 (op : ByteArray) (a b : V) : Int × Int × Bool := match tab2.lookup op with | some F => ((vTwo F a b).1, (vTwo F a b).2, true) | none => (0, 0, false)
def ops12 : List ByteArray := [sb [43], sb [45], sb [42], sb [47], sb [61, 61], sb [33, 61], sb [60], sb [60, 61], sb [62], sb [62, 61], sb [38, 38], sb [124, 124]]
theorem two_at {op : ByteArray} {F : V → V → V} (h : tab2.lookup op = some F) (a b : V) : two3 op a b = ((vTwo F a b).1, (vTwo F a b).2, true) := by unfold two3; rw [h]
section
variable {a b : V} (ha : isV a) (hb : isV b)
theorem keyl (l : List UInt8) : (sb l).toList = l := sb_toList l
theorem rdOf_at {i : Nat} (h : i < ops12.length) : rdOf ByteArray.empty ops12 (i : Int) = ops12[i] := by
 unfold rdOf
 rw [Int.toNat_natCast, List.getD_eq_getElem?_getD, List.getElem?_eq_getElem h]; rfl
theorem eq_bool {a b : V} (ha : isV a) (hb : isV b) (a2 : a.1 ≠ 2) (a3 : a.1 ≠ 3) (b2 : b.1 ≠ 2) (b3 : b.1 ≠ 3) : (vRank a == vRank b) = decide (a = b) := by
 rw [Bool.eq_iff_iff, beq_iff_eq, decide_eq_true_iff]
 exact rank_eq ha hb a2 a3 b2 b3
include ha hb
theorem two_add (a2 : a.1 ≠ 2) (b2 : b.1 ≠ 2) : Ev (fun k => r8_two.j2 k (sb [43]) (decide (a.1 = 3 ∨ b.1 = 3)) a.1 a.2 b.1 b.2) (((vNumbers vAdd) a b).1, ((vNumbers vAdd) a b).2, true) := by
 unfold vNumbers
 by_cases h : a.1 = 3 ∨ b.1 = 3
 ·rw [decide_eq_true h, if_pos h]
  refine one_step' fun k => ?_
  simp only [r8_two.j2]
  rw [keyl, if_neg (by decide), if_neg (by decide), if_neg (by decide), if_neg (by decide), if_neg (by decide), if_neg (by decide), if_neg (by decide), if_neg (by decide), if_pos trivial]; rfl
 ·rw [decide_eq_false h, if_neg h]
  have q := radd_ev ha hb
  refine Ev.step (f := fun k => (r8_add.f k a.1 a.2 b.1 b.2).bind fun bt => (some (bt.1, bt.2, true))) (fun k => ?_) (Ev.bind (f := fun k bt => (some (bt.1, bt.2, true))) q ⟨0, fun k _ => rfl⟩)
  simp only [r8_two.j2]
  rw [keyl, if_neg (by decide), if_neg (by decide), if_neg (by decide), if_neg (by decide), if_neg (by decide), if_neg (by decide), if_neg (by decide), if_neg (by decide), if_neg (by decide), if_pos rfl]
theorem two_sub (a2 : a.1 ≠ 2) (b2 : b.1 ≠ 2) : Ev (fun k => r8_two.j2 k (sb [45]) (decide (a.1 = 3 ∨ b.1 = 3)) a.1 a.2 b.1 b.2) (((vNumbers vSub) a b).1, ((vNumbers vSub) a b).2, true) := by
 unfold vNumbers
 by_cases h : a.1 = 3 ∨ b.1 = 3
 ·rw [decide_eq_true h, if_pos h]
  refine one_step' fun k => ?_
  simp only [r8_two.j2]
  rw [keyl, if_neg (by decide), if_neg (by decide), if_neg (by decide), if_neg (by decide), if_neg (by decide), if_neg (by decide), if_neg (by decide), if_neg (by decide), if_pos trivial]; rfl
 ·rw [decide_eq_false h, if_neg h]
  have q := radd_ev ha (isV_turn hb)
  have eS : vAdd a (vTurn b) = vSub a b := by unfold vSub; rw [turn_num hb b2 (fun h' => h (.inr h'))]
  rw [eS] at q
  refine Ev.step (f := fun k => (r8_add.f k a.1 a.2 (vTurn b).1 (vTurn b).2).bind fun bt => (some (bt.1, bt.2, true))) (fun k => ?_) (Ev.bind (f := fun k bt => (some (bt.1, bt.2, true))) q ⟨0, fun k _ => rfl⟩)
  simp only [r8_two.j2]
  rw [keyl, if_neg (by decide), if_neg (by decide), if_neg (by decide), if_neg (by decide), if_neg (by decide), if_neg (by decide), if_neg (by decide), if_neg (by decide), if_neg (by decide), if_neg (by decide), if_pos rfl]
  rw [rturned_is hb]; rfl
theorem two_mul (a2 : a.1 ≠ 2) (b2 : b.1 ≠ 2) : Ev (fun k => r8_two.j2 k (sb [42]) (decide (a.1 = 3 ∨ b.1 = 3)) a.1 a.2 b.1 b.2) (((vNumbers vMul) a b).1, ((vNumbers vMul) a b).2, true) := by
 unfold vNumbers
 by_cases h : a.1 = 3 ∨ b.1 = 3
 ·rw [decide_eq_true h, if_pos h]
  refine one_step' fun k => ?_
  simp only [r8_two.j2]
  rw [keyl, if_neg (by decide), if_neg (by decide), if_neg (by decide), if_neg (by decide), if_neg (by decide), if_neg (by decide), if_neg (by decide), if_neg (by decide), if_pos trivial]; rfl
 ·rw [decide_eq_false h, if_neg h]
  have q := rtimes_ev ha hb
  refine Ev.step (f := fun k => (r8_times.f k a.1 a.2 b.1 b.2).bind fun bt => (some (bt.1, bt.2, true))) (fun k => ?_) (Ev.bind (f := fun k bt => (some (bt.1, bt.2, true))) q ⟨0, fun k _ => rfl⟩)
  simp only [r8_two.j2]
  rw [keyl, if_neg (by decide), if_neg (by decide), if_neg (by decide), if_neg (by decide), if_neg (by decide), if_neg (by decide), if_neg (by decide), if_neg (by decide), if_neg (by decide), if_neg (by decide), if_neg (by decide), if_pos rfl]
theorem two_div (a2 : a.1 ≠ 2) (b2 : b.1 ≠ 2) : Ev (fun k => r8_two.j2 k (sb [47]) (decide (a.1 = 3 ∨ b.1 = 3)) a.1 a.2 b.1 b.2) (((vNumbers vDiv) a b).1, ((vNumbers vDiv) a b).2, true) := by
 unfold vNumbers
 by_cases h : a.1 = 3 ∨ b.1 = 3
 ·rw [decide_eq_true h, if_pos h]
  refine one_step' fun k => ?_
  simp only [r8_two.j2]
  rw [keyl, if_neg (by decide), if_neg (by decide), if_neg (by decide), if_neg (by decide), if_neg (by decide), if_neg (by decide), if_neg (by decide), if_neg (by decide), if_pos trivial]; rfl
 ·rw [decide_eq_false h, if_neg h]
  have q := rover_ev ha hb a2 (fun h' => h (.inl h')) b2 (fun h' => h (.inr h'))
  refine Ev.step (f := fun k => (r8_over.f k a.1 a.2 b.1 b.2).bind fun bt => (some (bt.1, bt.2, true))) (fun k => ?_) (Ev.bind (f := fun k bt => (some (bt.1, bt.2, true))) q ⟨0, fun k _ => rfl⟩)
  simp only [r8_two.j2]
  rw [keyl, if_neg (by decide), if_neg (by decide), if_neg (by decide), if_neg (by decide), if_neg (by decide), if_neg (by decide), if_neg (by decide), if_neg (by decide), if_neg (by decide), if_neg (by decide), if_neg (by decide), if_neg (by decide)]
theorem two_eq (a2 : a.1 ≠ 2) (b2 : b.1 ≠ 2) : Ev (fun k => r8_two.j2 k (sb [61, 61]) (decide (a.1 = 3 ∨ b.1 = 3)) a.1 a.2 b.1 b.2) (((vOrder false (fun m n => m == n)) a b).1, ((vOrder false (fun m n => m == n)) a b).2, true) := by
 refine one_step' fun k => ?_
 simp only [r8_two.j2]
 rw [keyl, if_neg (by decide), if_neg (by decide), if_pos rfl]
 unfold vOrder
 by_cases h : a.1 = 3 ∨ b.1 = 3
 ·rw [decide_eq_true h, if_pos rfl, if_pos h, rtruth_is]; rfl
 ·have e := eq_bool ha hb a2 (fun h' => h (.inl h')) b2 (fun h' => h (.inr h'))
  rw [decide_eq_false h, if_neg (by decide), if_neg h, rtruth_is]
  rw [pair_beq, ← e]; rfl
theorem two_ne (a2 : a.1 ≠ 2) (b2 : b.1 ≠ 2) : Ev (fun k => r8_two.j2 k (sb [33, 61]) (decide (a.1 = 3 ∨ b.1 = 3)) a.1 a.2 b.1 b.2) (((vOrder true (fun m n => m != n)) a b).1, ((vOrder true (fun m n => m != n)) a b).2, true) := by
 refine one_step' fun k => ?_
 simp only [r8_two.j2]
 rw [keyl, if_neg (by decide), if_neg (by decide), if_neg (by decide), if_pos rfl]
 unfold vOrder
 by_cases h : a.1 = 3 ∨ b.1 = 3
 ·rw [decide_eq_true h, if_pos rfl, if_pos h, rtruth_is]; rfl
 ·have e := eq_bool ha hb a2 (fun h' => h (.inl h')) b2 (fun h' => h (.inr h'))
  rw [decide_eq_false h, if_neg (by decide), if_neg h, rtruth_is]
  have e2 : (!(a.1 == b.1) || (!(a.2 == b.2))) = (vRank a != vRank b) := by
   rw [← Bool.not_and, pair_beq, ← e]; rfl
  rw [e2]; rfl
theorem two_lt (a2 : a.1 ≠ 2) (b2 : b.1 ≠ 2) : Ev (fun k => r8_two.j2 k (sb [60]) (decide (a.1 = 3 ∨ b.1 = 3)) a.1 a.2 b.1 b.2) (((vOrder false (fun m n => decide (m < n))) a b).1, ((vOrder false (fun m n => decide (m < n))) a b).2, true) := by
 unfold vOrder
 by_cases h : a.1 = 3 ∨ b.1 = 3
 ·rw [decide_eq_true h, if_pos h]
  refine one_step' fun k => ?_
  simp only [r8_two.j2]
  rw [keyl, if_neg (by decide), if_neg (by decide), if_neg (by decide), if_neg (by decide), if_pos rfl, if_pos trivial, rtruth_is]; rfl
 ·rw [decide_eq_false h, if_neg h]
  have q := rless_ev ha hb a2 (fun h' => h (.inl h')) b2 (fun h' => h (.inr h'))
  have e : (decide (vRank a < vRank b)) = decide (vRank a < vRank b) := by
   rfl
  refine Ev.step (f := fun k => (r8_Less.f k a.1 a.2 b.1 b.2).bind fun t => ((r8_Truth.f (t)).bind fun bt => (some (bt.1, bt.2, true)))) (fun k => ?_) (Ev.bind (f := fun k t => ((r8_Truth.f (t)).bind fun bt => (some (bt.1, bt.2, true)))) q ⟨0, fun k _ => ?_⟩)
  ·simp only [r8_two.j2]
   rw [keyl, if_neg (by decide), if_neg (by decide), if_neg (by decide), if_neg (by decide), if_pos rfl, if_neg (by decide)]
  ·show (r8_Truth.f (decide (vRank a < vRank b))).bind _ = _
   rw [rtruth_is, e]; rfl
theorem two_le (a2 : a.1 ≠ 2) (b2 : b.1 ≠ 2) : Ev (fun k => r8_two.j2 k (sb [60, 61]) (decide (a.1 = 3 ∨ b.1 = 3)) a.1 a.2 b.1 b.2) (((vOrder false (fun m n => decide (m ≤ n))) a b).1, ((vOrder false (fun m n => decide (m ≤ n))) a b).2, true) := by
 unfold vOrder
 by_cases h : a.1 = 3 ∨ b.1 = 3
 ·rw [decide_eq_true h, if_pos h]
  refine one_step' fun k => ?_
  simp only [r8_two.j2]
  rw [keyl, if_neg (by decide), if_neg (by decide), if_neg (by decide), if_neg (by decide), if_neg (by decide), if_pos rfl, if_pos trivial, rtruth_is]; rfl
 ·rw [decide_eq_false h, if_neg h]
  have q := rless_ev hb ha b2 (fun h' => h (.inr h')) a2 (fun h' => h (.inl h'))
  have e : (!decide (vRank b < vRank a)) = decide (vRank a ≤ vRank b) := by
   rw [← decide_not]; congr 1; rw [Int.not_lt]
  refine Ev.step (f := fun k => (r8_Less.f k b.1 b.2 a.1 a.2).bind fun t => ((r8_Truth.f (!t)).bind fun bt => (some (bt.1, bt.2, true)))) (fun k => ?_) (Ev.bind (f := fun k t => ((r8_Truth.f (!t)).bind fun bt => (some (bt.1, bt.2, true)))) q ⟨0, fun k _ => ?_⟩)
  ·simp only [r8_two.j2]
   rw [keyl, if_neg (by decide), if_neg (by decide), if_neg (by decide), if_neg (by decide), if_neg (by decide), if_pos rfl, if_neg (by decide)]
  ·show (r8_Truth.f (!decide (vRank b < vRank a))).bind _ = _
   rw [rtruth_is, e]; rfl
theorem two_gt (a2 : a.1 ≠ 2) (b2 : b.1 ≠ 2) : Ev (fun k => r8_two.j2 k (sb [62]) (decide (a.1 = 3 ∨ b.1 = 3)) a.1 a.2 b.1 b.2) (((vOrder false (fun m n => decide (m > n))) a b).1, ((vOrder false (fun m n => decide (m > n))) a b).2, true) := by
 unfold vOrder
 by_cases h : a.1 = 3 ∨ b.1 = 3
 ·rw [decide_eq_true h, if_pos h]
  refine one_step' fun k => ?_
  simp only [r8_two.j2]
  rw [keyl, if_neg (by decide), if_neg (by decide), if_neg (by decide), if_neg (by decide), if_neg (by decide), if_neg (by decide), if_pos rfl, if_pos trivial, rtruth_is]; rfl
 ·rw [decide_eq_false h, if_neg h]
  have q := rless_ev hb ha b2 (fun h' => h (.inr h')) a2 (fun h' => h (.inl h'))
  have e : (decide (vRank b < vRank a)) = decide (vRank a > vRank b) := by
   rfl
  refine Ev.step (f := fun k => (r8_Less.f k b.1 b.2 a.1 a.2).bind fun t => ((r8_Truth.f (t)).bind fun bt => (some (bt.1, bt.2, true)))) (fun k => ?_) (Ev.bind (f := fun k t => ((r8_Truth.f (t)).bind fun bt => (some (bt.1, bt.2, true)))) q ⟨0, fun k _ => ?_⟩)
  ·simp only [r8_two.j2]
   rw [keyl, if_neg (by decide), if_neg (by decide), if_neg (by decide), if_neg (by decide), if_neg (by decide), if_neg (by decide), if_pos rfl, if_neg (by decide)]
  ·show (r8_Truth.f (decide (vRank b < vRank a))).bind _ = _
   rw [rtruth_is, e]; rfl
theorem two_ge (a2 : a.1 ≠ 2) (b2 : b.1 ≠ 2) : Ev (fun k => r8_two.j2 k (sb [62, 61]) (decide (a.1 = 3 ∨ b.1 = 3)) a.1 a.2 b.1 b.2) (((vOrder false (fun m n => decide (m ≥ n))) a b).1, ((vOrder false (fun m n => decide (m ≥ n))) a b).2, true) := by
 unfold vOrder
 by_cases h : a.1 = 3 ∨ b.1 = 3
 ·rw [decide_eq_true h, if_pos h]
  refine one_step' fun k => ?_
  simp only [r8_two.j2]
  rw [keyl, if_neg (by decide), if_neg (by decide), if_neg (by decide), if_neg (by decide), if_neg (by decide), if_neg (by decide), if_neg (by decide), if_pos rfl, if_pos trivial, rtruth_is]; rfl
 ·rw [decide_eq_false h, if_neg h]
  have q := rless_ev ha hb a2 (fun h' => h (.inl h')) b2 (fun h' => h (.inr h'))
  have e : (!decide (vRank a < vRank b)) = decide (vRank a ≥ vRank b) := by
   rw [← decide_not]; congr 1; rw [Int.not_lt]
  refine Ev.step (f := fun k => (r8_Less.f k a.1 a.2 b.1 b.2).bind fun t => ((r8_Truth.f (!t)).bind fun bt => (some (bt.1, bt.2, true)))) (fun k => ?_) (Ev.bind (f := fun k t => ((r8_Truth.f (!t)).bind fun bt => (some (bt.1, bt.2, true)))) q ⟨0, fun k _ => ?_⟩)
  ·simp only [r8_two.j2]
   rw [keyl, if_neg (by decide), if_neg (by decide), if_neg (by decide), if_neg (by decide), if_neg (by decide), if_neg (by decide), if_neg (by decide), if_pos rfl, if_neg (by decide)]
  ·show (r8_Truth.f (!decide (vRank a < vRank b))).bind _ = _
   rw [rtruth_is, e]; rfl
theorem two_and (a2 : a.1 ≠ 2) (b2 : b.1 ≠ 2) : Ev (fun k => r8_two.j2 k (sb [38, 38]) (decide (a.1 = 3 ∨ b.1 = 3)) a.1 a.2 b.1 b.2) ((vAnd a b).1, (vAnd a b).2, true) := by
 refine one_step' fun k => ?_
 simp only [r8_two.j2]
 rw [keyl, if_pos rfl, rtrue_is ha]
 simp only [Option.bind_some]
 unfold vAnd
 by_cases h : vTrue a = true
 ·rw [if_pos h, rtrue_is hb]; simp only [Option.bind_some, rtruth_is]; rw [h]; rfl
 ·rw [if_neg h, rtruth_is, Bool.eq_false_iff.2 h]; rfl
theorem two_or (a2 : a.1 ≠ 2) (b2 : b.1 ≠ 2) : Ev (fun k => r8_two.j2 k (sb [124, 124]) (decide (a.1 = 3 ∨ b.1 = 3)) a.1 a.2 b.1 b.2) ((vOr a b).1, (vOr a b).2, true) := by
 refine one_step' fun k => ?_
 simp only [r8_two.j2]
 rw [keyl, if_neg (by decide), if_pos rfl, rtrue_is ha]
 simp only [Option.bind_some]
 unfold vOr
 by_cases h : vTrue a = true
 ·rw [if_pos h, rtruth_is, h]; rfl
 ·rw [if_neg h, rtrue_is hb]; simp only [Option.bind_some, rtruth_is]; rw [Bool.eq_false_iff.2 h]; rfl
omit ha hb in
theorem two_j1 (op : ByteArray) {F : V → V → V} (ht : tab2.lookup op = some F) (h : a.1 ≠ 2 → b.1 ≠ 2 → Ev (fun k => r8_two.j2 k op (decide (a.1 = 3 ∨ b.1 = 3)) a.1 a.2 b.1 b.2) ((F a b).1, (F a b).2, true)) : Ev (fun k => r8_two.j1 k op (decide (a.1 = 2 ∨ b.1 = 2)) a.1 a.2 b.1 b.2) (two3 op a b) := by
 rw [two_at ht]
 unfold vTwo
 by_cases hn : a.1 = 2 ∨ b.1 = 2
 ·rw [decide_eq_true hn, if_pos hn]
  exact one_step' fun k => by simp only [r8_two.j1, if_true]; rfl
 ·rw [decide_eq_false hn, if_neg hn]
  refine Ev.step (fun k => ?_) (h (fun h' => hn (.inl h')) (fun h' => hn (.inr h')))
  simp only [r8_two.j1]
  rw [if_neg (by decide)]
  by_cases h3 : a.1 = 3
  ·rw [if_pos h3, decide_eq_true (show a.1 = 3 ∨ b.1 = 3 from .inl h3)]
  ·rw [if_neg h3]
   by_cases g3 : b.1 = 3
   ·rw [g3, decide_eq_true (show a.1 = 3 ∨ (3 : Int) = 3 from .inr rfl)]; rfl
   ·rw [beq_false_of_ne g3, decide_eq_false (fun h' => h'.elim h3 g3)]
theorem two_known (op : ByteArray) (hk : op ∈ ops12) : Ev (fun k => r8_two.j1 k op (decide (a.1 = 2 ∨ b.1 = 2)) a.1 a.2 b.1 b.2) (two3 op a b) := by
 simp only [ops12, List.mem_cons, List.mem_nil_iff, or_false] at hk
 rcases hk with rfl | rfl | rfl | rfl | rfl | rfl | rfl | rfl | rfl | rfl | rfl | rfl
 ·exact two_j1 _ op2_add (two_add ha hb)
 ·exact two_j1 _ op2_sub (two_sub ha hb)
 ·exact two_j1 _ op2_mul (two_mul ha hb)
 ·exact two_j1 _ op2_div (two_div ha hb)
 ·exact two_j1 _ op2_eq (two_eq ha hb)
 ·exact two_j1 _ op2_ne (two_ne ha hb)
 ·exact two_j1 _ op2_lt (two_lt ha hb)
 ·exact two_j1 _ op2_le (two_le ha hb)
 ·exact two_j1 _ op2_gt (two_gt ha hb)
 ·exact two_j1 _ op2_ge (two_ge ha hb)
 ·exact two_j1 _ op2_and (two_and ha hb)
 ·exact two_j1 _ op2_or (two_or ha hb)
omit ha hb in
theorem two_unknown (op : ByteArray) (hk : op ∉ ops12) : tab2.lookup op = none := by
 simp only [ops12, List.mem_cons, List.mem_nil_iff, or_false, not_or] at hk
 obtain ⟨c0, c1, c2, c3, c4, c5, c6, c7, c8, c9, c10, c11⟩ := hk
 unfold tab2
 simp only [List.lookup, ba_ne c0, ba_ne c1, ba_ne c2, ba_ne c3, ba_ne c4, ba_ne c5, ba_ne c6, ba_ne c7, ba_ne c8, ba_ne c9, ba_ne c10, ba_ne c11]
theorem two_loop (op : ByteArray) : ∀ (d i : Nat) (kn : Bool), i + d = 12 → (kn = true → op ∈ ops12) → (kn = false → ∀ x ∈ ops12.take i, x ≠ op) → Ev (fun k => r8_two.l0 k op kn ops12 (i : Int) a.1 a.2 b.1 b.2) (two3 op a b)
 | 0, i, kn, hd, hk, hn => by
  have hi : i = 12 := by omega
  subst hi
  cases kn with
  | true =>
   refine Ev.step (fun k => ?_) (two_known ha hb op (hk rfl))
   simp only [r8_two.l0]
   rw [if_neg (by decide), if_pos trivial]
   by_cases h2 : a.1 = 2
   ·rw [if_pos h2, decide_eq_true (show a.1 = 2 ∨ b.1 = 2 from .inl h2)]
   ·rw [if_neg h2]
    by_cases g2 : b.1 = 2
    ·rw [g2, decide_eq_true (show a.1 = 2 ∨ (2 : Int) = 2 from .inr rfl)]; rfl
    ·rw [beq_false_of_ne g2, decide_eq_false (fun h' => h'.elim h2 g2)]
  | false =>
   have hne : op ∉ ops12 := fun hm => hn rfl op (by rw [List.take_of_length_le (by decide)]; exact hm) rfl
   have e : two3 op a b = (0, 0, false) := by unfold two3; rw [two_unknown op hne]
   rw [e]
   refine one_step' fun k => ?_
   simp only [r8_two.l0]
   rw [if_neg (by decide), if_neg (by decide)]
 | d + 1, i, kn, hd, hk, hn => by
  have hl : ops12.length = 12 := rfl
  have hi : i < ops12.length := by omega
  have e1 : wrap64 ((i : Int) + 1) = ((i + 1 : Nat) : Int) := by rw [wrap_id (by omega) (by omega)]; omega
  cases kn with
  | true =>
   refine Ev.step (fun k => ?_) (two_loop op d (i + 1) true (by omega) hk (fun h => by cases h))
   simp only [r8_two.l0, if_true]
   rw [if_pos (by omega), e1]
  | false =>
   by_cases he : ops12[i] = op
   ·refine Ev.step (fun k => ?_) (two_loop op d (i + 1) true (by omega) (fun _ => by rw [← he]; exact List.getElem_mem hi) (fun h => by cases h))
    simp only [r8_two.l0]
    rw [if_pos (by omega), if_neg (by decide), if_pos (by omega), rdOf_at hi, e1, he, beq_self_eq_true]
   ·refine Ev.step (fun k => ?_) (two_loop op d (i + 1) false (by omega) (fun h => by cases h) (fun _ x hx => ?_))
    ·simp only [r8_two.l0]
     rw [if_pos (by omega), if_neg (by decide), if_pos (by omega), rdOf_at hi, e1, beq_false_of_ne (fun h => he (sb_inj.1 h))]
    ·rw [List.take_succ_eq_append_getElem hi] at hx
     rcases List.mem_append.1 hx with hx | hx
     ·exact hn rfl x hx
     ·obtain rfl := List.mem_singleton.1 hx
      exact he
theorem two_ev (op : ByteArray) : Ev (fun k => r8_two.f k op a.1 a.2 b.1 b.2) (two3 op a b) :=
 two_loop ha hb op 12 0 false (by omega) (fun h => by cases h) (fun _ x hx => by simp at hx)
end
/-- The document's Do of a list of values. -/
theorem rdo_ev (op : ByteArray) (l : List S25) (hm : l.length ≤ 4611686018427387904) : Ev (fun k => r8_Do.f k op l) ((vDo op (l.map sv)).1.1, (vDo op (l.map sv)).1.2, (vDo op (l.map sv)).2) := by
 unfold r8_Do.f
 refine Ev.bind (f := fun k t388 => (if t388 = 0 then (if (l.length : Int) = 1 then (if 0 < (l.length : Int) then ((r8_one.f k op ((rd_T25 l 0).f0) ((rd_T25 l 0).f1)).bind fun bt391 => (r8_Do.j0 k op l bt391.2.2 bt391.1 bt391.2.1)) else (none)) else (r8_Do.j0 k op l false 0 0)) else (some (0, 0, 80)))) (check_ev l hm) ?_
 by_cases hb : l.any badV = true
 ·have e : vDo op (l.map sv) = ((0, 0), 80) := by unfold vDo; rw [any_sv, if_pos hb]
  rw [e, if_pos hb]
  exact const_ev fun k => by rw [if_neg (by decide)]
 ·rw [if_neg hb]
  refine Ev.congr (f := fun k => (if (l.length : Int) = 1 then (if 0 < (l.length : Int) then ((r8_one.f k op ((rd_T25 l 0).f0) ((rd_T25 l 0).f1)).bind fun bt391 => (r8_Do.j0 k op l bt391.2.2 bt391.1 bt391.2.1)) else (none)) else (r8_Do.j0 k op l false 0 0))) (fun k => by rw [if_pos rfl]) ?_
  have other : l.length ≠ 2 → Ev (fun k => r8_Do.j0 k op l false 0 0) (0, 0, 2) := fun h2 => one_step' fun k => by
   simp only [r8_Do.j0]
   rw [if_neg (by omega), if_neg (by decide)]
  match l, hb, other with
  | [], hb, other =>
   have e : vDo op (([] : List S25).map sv) = ((0, 0), 2) := rfl
   rw [e]
   refine Ev.congr (fun k => ?_) (other (by decide))
   rw [if_neg (by decide)]
  | [x], hb, other =>
   have hv : isV (sv x) := by simpa [badV] using hb
   refine Ev.congr (f := fun k => ((r8_one.f k op (sv x).1 (sv x).2).bind fun bt391 => (r8_Do.j0 k op [x] bt391.2.2 bt391.1 bt391.2.1))) (fun k => by rw [if_pos (by simp), if_pos (by simp)]; rfl) ?_
   refine Ev.bind (f := fun k bt391 => (r8_Do.j0 k op [x] bt391.2.2 bt391.1 bt391.2.1)) (one_ev op hv) ?_
   refine one_step' fun k => ?_
   simp only [r8_Do.j0]
   rw [if_neg (by simp)]
   unfold one3 vDo
   rw [any_sv, if_neg hb]
   simp only [List.map]
   cases ht : tab1.lookup op with
   | none => rfl
   | some F => rfl
  | [x, y], hb, other =>
   have hv : isV (sv x) ∧ isV (sv y) := by simpa [badV] using hb
   refine Ev.congr (f := fun k => r8_Do.j0 k op [x, y] false 0 0) (fun k => by rw [if_neg (by simp)]) ?_
   refine Ev.step (f := fun k => ((r8_two.f k op (sv x).1 (sv x).2 (sv y).1 (sv y).2).bind fun bt396 => (if bt396.2.2 = true then (some (bt396.1, bt396.2.1, 0)) else (some (0, 0, 2))))) (fun k => ?_) ?_
   ·simp only [r8_Do.j0]
    rw [if_pos (by simp), if_pos (by simp), if_pos (by simp)]; rfl
   ·refine Ev.bind (f := fun k bt396 => (if bt396.2.2 = true then (some ((bt396.1, bt396.2.1, 0) : Int × Int × Int)) else (some (0, 0, 2)))) (two_ev hv.1 hv.2 op) ⟨0, fun k _ => ?_⟩
    unfold two3 vDo
    rw [any_sv, if_neg hb]
    simp only [List.map]
    cases ht : tab2.lookup op with
    | none => rfl
    | some F =>
     unfold vTwo
     by_cases hn : (sv x).1 = 2 ∨ (sv y).1 = 2
     ·simp [hn]
     ·simp [hn]
  | x :: y :: z :: l, hb, other =>
   have e : vDo op ((x :: y :: z :: l).map sv) = ((0, 0), 2) := by unfold vDo; rw [any_sv, if_neg hb]; rfl
   rw [e]
   refine Ev.congr (fun k => ?_) (other (by simp))
   rw [if_neg (by simp; omega)]
/-- A scalar as a frame. -/
theorem scal_calls (v : V) (w : World) : Calls Tryz.prog 20 #[.agg #[.int .i64 v.1, .int .i64 v.2]] w fun e w' => ∃ (A' : Option Addr) (c' : Nat), e = .returned (.slice A' 1 c') ∧ Kd.C k37 w' A' 1 [scal v] ∧ 1 ≤ c' ∧ Below w.heap.size w w' := by
 refine (s_Scalar.calls v.1 v.2 [scal v] w rfl).mono ?_
 rintro e w' ⟨x, rfl, hs, hb⟩
 obtain ⟨A', c', rfl, h1, h2⟩ := Kd.N_reads (Kd.S_N hs)
 exact ⟨A', c', rfl, h2, h1, hb⟩
/-- series.Join, of rows, told so. -/
theorem join_calls' (op : ByteArray) (A B : Option Addr) (c d n m : Nat) (a b : List Ser) (ha : SersOk a) (hb : SersOk b) (w : World) (hA : Kd.C k37 w A a.length a) (hB : Kd.C k37 w B b.length b) (hn : n = a.length) (hm : m = b.length) {s : List Ser} {e0 : Int} (hs : vJoin op a b = (s, e0)) :
  Calls Tryz.prog 19 #[.string op, .slice A n c, .slice B m d] w fun e w' => ∃ (A' : Option Addr) (c' : Nat), e = .returned (.tuple #[.slice A' s.length c', .int .i64 e0]) ∧ Kd.C k37 w' A' s.length s ∧ s.length ≤ c' ∧ Below w.heap.size w w' := by
 subst hn; subst hm
 have h := sjoin_calls op A B c d a b ha hb w hA hB
 rw [hs] at h
 refine h.mono ?_
 rintro e w' ⟨v, rfl, hN, hb⟩
 obtain ⟨A', c', rfl, h1, h2⟩ := Kd.N_reads hN
 exact ⟨A', c', rfl, h2, h1, hb⟩
theorem scal_ok (v : V) : SersOk [scal v] := ⟨by rw [List.length_singleton]; omega, fun x hx => by rw [List.mem_singleton.1 hx]; exact ⟨by show (0 : Nat) < _; omega, by show (0 : Nat) < _; omega, fun x hx => by cases hx⟩⟩
/-- R.Do at two values that lie in a row made just now. -/
theorem rdo2 (op : ByteArray) (x1 x2 y1 y2 : Int) {r1 r2 r3 : Int} (h : vDo op [(x1, x2), (y1, y2)] = ((r1, r2), r3)) (n : Nat) (W : World) (hb : W.heap[n]? = some (.cells #[.int .i64 x1, .int .i64 x2, .int .i64 y1, .int .i64 y2] 25 (0, 0))) :
  Calls Tryz.prog 17 #[.string op, .slice (some ⟨n, 0, none⟩) 2 2] W fun e w' => e = .returned (.tuple #[.agg #[.int .i64 r1, .int .i64 r2], .int .i64 r3]) ∧ Below W.heap.size W w' := by
 have hr : Kd.C k25 W (some ⟨n, 0, none⟩) 2 [⟨x1, x2⟩, ⟨y1, y2⟩] := row_of k25 [(⟨x1, x2⟩, [.int .i64 x1, .int .i64 x2]), (⟨y1, y2⟩, [.int .i64 y1, .int .i64 y2])] (fun q hq => by
  simp only [List.mem_cons, List.not_mem_nil, or_false] at hq
  rcases hq with rfl | rfl <;> exact k25_mk _ _) (by simp) hb
 obtain ⟨k, hk⟩ := (rdo_ev op [⟨x1, x2⟩, ⟨y1, y2⟩] (by simp)).rounds
 have e : vDo op ([(⟨x1, x2⟩ : S25), ⟨y1, y2⟩].map sv) = ((r1, r2), r3) := h
 rw [e] at hk
 exact r8_Do.calls k op _ 2 [⟨x1, x2⟩, ⟨y1, y2⟩] r1 r2 r3 W hr (Nat.le_refl 2) hk
theorem kk {w0 W w3 : World} (h : Below w0.heap.size w0 W) (hb : Below W.heap.size W w3) : Below w0.heap.size w0 w3 := h.trans (hb.mono h.size)
/-- R.Do at one value that lies in a row made just now. -/
theorem rdo1 (op : ByteArray) (x1 x2 : Int) {r1 r2 r3 : Int} (h : vDo op [(x1, x2)] = ((r1, r2), r3)) (n : Nat) (W : World) (hb : W.heap[n]? = some (.cells #[.int .i64 x1, .int .i64 x2] 25 (0, 0))) :
  Calls Tryz.prog 17 #[.string op, .slice (some ⟨n, 0, none⟩) 1 1] W fun e w' => e = .returned (.tuple #[.agg #[.int .i64 r1, .int .i64 r2], .int .i64 r3]) ∧ Below W.heap.size W w' := by
 have hr : Kd.C k25 W (some ⟨n, 0, none⟩) 1 [⟨x1, x2⟩] := row_of k25 [(⟨x1, x2⟩, [.int .i64 x1, .int .i64 x2])] (fun q hq => by
  rw [List.mem_singleton.1 hq]
  exact k25_mk _ _) (by simp) hb
 obtain ⟨k, hk⟩ := (rdo_ev op [⟨x1, x2⟩] (by simp)).rounds
 have e : vDo op ([(⟨x1, x2⟩ : S25)].map sv) = ((r1, r2), r3) := h
 rw [e] at hk
 exact r8_Do.calls k op _ 1 [⟨x1, x2⟩] r1 r2 r3 W hr (Nat.le_refl 1) hk
section
variable {P : Program} {ops : Array Oper} {rest : List Oper} {o : Oper} {a : Act} {Q : Exit → Act → World → Prop} {Kc : Act → World → Prop}
/-- append(v, x), beside a box that stands. -/
theorem app37_box {wc W : World} (hw : Region.wanted o (yielded ops a.tmps) = true) (s x : Operand) (ho : o.op = .call { callee := .builtin .append, args := #[s, x], argTypes := #[33, 33] })
  (v : Value) (xs : List Ser) (y : Ser) (cs : List Value) (g N : Nat) (r1 r2 : Int) (hs : a.eval s = v) (hx : a.eval x = .slice (some ⟨g, 0, none⟩) 1 1)
  (HO : Kd.N k37 37 W wc.heap.size (fun _ => True) v xs) (HF : Kd.FK k37 wc (fun k => k < wc.heap.size) y cs) (hg : W.heap[g]? = some (.cells cs.toArray 37 (0, 0)))
  (hX : W.heap[N]? = some (.cells #[.int .i64 r1, .int .i64 r2] 25 (0, 0))) (HB : Below wc.heap.size wc W) (hl : (xs.length + 1) * 40 ≤ 140737488355328)
  (h : ∀ v1 w1, Kd.N k37 37 w1 wc.heap.size (fun _ => True) v1 (xs ++ [y]) → Below wc.heap.size wc w1 → w1.heap[N]? = some (.cells #[.int .i64 r1, .int .i64 r2] 25 (0, 0)) → Kc (a.put o.dst v1) w1) :
  if Region.wanted o (yielded ops a.tmps) = true then Oper.wp Tryz.prog o a W Kc Q else Kc (a.put o.dst undef) W :=
 app37_step hw s x ho v xs [y] _ 1 1 hs hx HO (rowOne HF HB hg) HB hl fun v1 w1 h1 h2 h3 => h v1 w1 h1 h2 (blk_grown hX h3 (Kd.N_ne HO hX (by decide)))
end
theorem map_step {α : Type} (f : α → α) (s : List α) (i : Nat) (hi : i < s.length) : (s.take (i + 1)).map f = (s.take i).map f ++ [f s[i]] := by
 rw [List.take_add_one, List.getElem?_eq_getElem hi, List.map_append]
 rfl
theorem rmap_calls (op : ByteArray) (A : Option Addr) (c : Nat) (l : List Ser) (hl : SersOk l) (w : World) (hr : Kd.C k37 w A l.length l) :
  Calls Tryz.prog 24 #[.string op, .slice A l.length c] w fun e w' => ∃ v : Value, e = .returned (.tuple #[v, .int .i64 (vMap op l).2]) ∧ Kd.N k37 37 w' w.heap.size (fun _ => True) v (vMap op l).1 ∧ Below w.heap.size w w' := by
 have mixed : Tryz.prog.follows .mixedOrders = true := by kernel_rfl
 have HSo := Sd.mk (rsort_calls A c l hl w hr)
 have hok := sers_ok' l
 unfold vMap
 generalize vSort l = sr at HSo hok ⊢
 obtain ⟨s, e0⟩ := sr
 simp only at HSo hok ⊢
 have hmx := hok.1
 clear hok
 rcases hkn : vDo op [(1, 0)] with ⟨⟨n1, n2⟩, kn⟩
 have HKN := Sd.mk (rdo1 op 1 0 hkn)
 simp only
 clear hkn
 by_cases h0 : e0 = 0
 ·subst h0
  rw [if_pos rfl]
  generalize hrr : (if kn = 0 then (s.map (mapV op), (0 : Int)) else ([], 2)) = r
  have HRR := Sd.mk hrr
  clear hrr
  go_enter Tryz.func24, Tryz.ntmps24
  go_wp2_with fail
  refine HSo.out.mono ?_
  rintro e w1 ⟨v, rfl, hv, hb1⟩
  obtain ⟨A3, c3, rfl, hc3, hC3⟩ := Kd.N_reads hv
  have HC1 := Sd.mk hC3
  have HB1 := Sd.mk hb1
  clear hv hb1 hC3 HSo
  go_upto_region 4 with fail
  go_cut [9] from 22 to 29 (fun v9 wx => v9 = .int .i64 kn ∧ Sd (Below w1.heap.size w1 wx))
  case first =>
   go_wp2_with fail
   refine (rnum_calls 0 (by omega) (by omega) w1).mono ?_
   rintro e w2 ⟨rfl, hb2⟩
   have HB2 := Sd.mk hb2
   clear hb2
   go_wp2_with fail
   refine (HKN.out _ _ (blk_new w2 _)).mono ?_
   rintro e w3 ⟨rfl, hb3⟩
   have HB3 := Sd.mk (HB2.out.trans (((below1 w2 _).trans (hb3.mono (size_new _ _))).mono HB2.out.size))
   clear hb3
   go_wp2
   go_meet
   exact ⟨rfl, ⟨bal HB3.out _⟩⟩
  case rest =>
   obtain ⟨rfl, HB2⟩ := hcut
   rename World => wL
   have HCL := Sd.mk (Kd.C_below HC1.out HB2.out)
   have HBL := Sd.mk (HB1.out.trans (HB2.out.mono HB1.out.size))
   clear HC1 HB1 HB2 HKN
   by_cases hk : kn = 0
   ·subst hk
    have ER := Sd.mk (HRR.out.symm.trans (if_pos rfl))
    clear HRR
    go_wp2
    go_loopw [10, 11] (fun v10 v11 wr => ∃ i : Nat, i ≤ s.length ∧ v11 = .int .i64 i ∧ Sd (Kd.N k37 37 wr wL.heap.size (fun _ => True) v10 ((s.take i).map (mapV op))) ∧ Sd (Below wL.heap.size wL wr)) (fun _ v11 _ => s.length - (intOf v11).toNat)
    case atStart => exact ⟨0, Nat.zero_le _, rfl, ⟨Kd.N_nil _ _ _ _ _⟩, ⟨Below.refl _ _⟩⟩
    case round =>
     obtain ⟨i, hi, rfl, HO, HW⟩ := hrel
     rename World => wq
     by_cases hlt : i < s.length
     ·have b1 : (i : Int) < (s.length : Int) := by omega
      have b2 : (0 : Int) ≤ (i : Int) := by omega
      have hlen : ((s.take i).map (mapV op)).length = i := by rw [List.length_map, List.length_take]; omega
      have hst := map_step (mapV op) s i hlt
      obtain ⟨ad, A0, c0, hA, o0, o1, o2, hK⟩ := came_at HCL.out i hlt
      subst hA
      rcases hdo : vDo op [(s[i].f1.f0, s[i].f1.f1)] with ⟨⟨r1, r2⟩, r3⟩
      have hmv : mapV op s[i] = ⟨s[i].f0, ⟨r1, r2⟩⟩ := by unfold mapV; rw [hdo]
      rw [hmv] at hst
      have HST := Sd.mk hst
      have HFK := Sd.mk (FK_val hK ⟨r1, r2⟩)
      have HD := Sd.mk (rdo1 op s[i].f1.f0 s[i].f1.f1 hdo)
      clear hst hmv hdo hK
      have L0 := o0
      replace o0 := pw_cell_below HW.out o0
      replace o1 := pw_cell_below HW.out o1
      replace o2 := pw_cell_below HW.out o2
      generalize s[i].f1.f0 = y1 at o1 HD
      generalize s[i].f1.f1 = y2 at o2 HD
      generalize s[i].f0 = xl at o0 L0 HST HFK
      generalize (s.take i).map (mapV op) = cur at HO HST hlen
      go_wp2_with fail
      refine (HD.out _ _ (blk_new wq _)).mono ?_
      rintro e w3 ⟨rfl, hb3⟩
      have HB3 := Sd.mk ((below1 wq _).trans (hb3.mono (size_new _ _)))
      clear hb3
      have HX5 := Sd.mk (blk_new w3 (.cells #[.int .i64 r1, .int .i64 r2] 25))
      have HB5 := Sd.mk (bal HB3.out (.cells #[.int .i64 r1, .int .i64 r2] 25))
      obtain ⟨N12, hN⟩ : ∃ N, w3.heap.size = N := ⟨_, rfl⟩
      rw [hN] at HX5
      go_upto_region 12 with fail
      try rw [hN]
      generalize w3.alloc (.cells #[.int .i64 r1, .int .i64 r2] 25) = w5 at HX5 HB5 ⊢
      have HO5 := Sd.mk (Kd.N_below HO.out HB5.out)
      have HW5 := Sd.mk (HW.out.trans (HB5.out.mono HW.out.size))
      have z0 := blk_cell HX5.out 0
      have z1 := blk_cell HX5.out 1
      replace o0 := pw_cell_below HB5.out o0
      clear HO HB3 hN o1 o2
      go_region_held3 (fun w' => w'.cell? (ad.add (i * 3)) = some (.slice A0 xl.length c0) ∧ w'.cell? ⟨N12, 0, none⟩ = some (.int .i64 r1) ∧ w'.cell? ⟨N12, 1, none⟩ = some (.int .i64 r2))
       (first | exact hS | go_keep)
       (first | (refine app37_box (wc := wL) (by rfl) (.tmp 48) (.tmp 56) rfl u10 cur ⟨xl, ⟨r1, r2⟩⟩ [.slice A0 xl.length c0, .int .i64 r1, .int .i64 r2] w5.heap.size N12 r1 r2 rfl rfl (by repeat (first | exact HO5.out | (with_reducible refine Kd.N_drew ?_) | (with_reducible refine Kd.N_alloc ?_ _))) HFK.out (by repeat (first | exact blk_new _ _ | (with_reducible refine blk_drew ?_) | (with_reducible refine blk_alloc ?_ _))) (by repeat (first | exact HX5.out | (with_reducible refine blk_drew ?_) | (with_reducible refine blk_alloc ?_ _))) (by repeat (first | exact HW5.out | apply bal | apply bd1)) (by omega) ?_; intro v7 w7 ho hbn hx7; have hS : w7.cell? (ad.add (i * 3)) = some (.slice A0 xl.length c0) ∧ w7.cell? ⟨N12, 0, none⟩ = some (.int .i64 r1) ∧ w7.cell? ⟨N12, 1, none⟩ = some (.int .i64 r2) := ⟨pw_cell_below hbn L0, blk_cell hx7 0, blk_cell hx7 1⟩))
      have HO7 := Sd.mk ho
      have HB7 := Sd.mk hbn
      clear ho hbn hx7
      go_wp2
      go_roundw
      case measure => simp [intOf]; omega
      case rel => exact ⟨i + 1, by omega, by go_num, ⟨by rw [HST.out]; exact HO7.out⟩, HB7⟩
     ·have n1 : decide ((i : Int) < (s.length : Int)) = false := decide_eq_false (by omega)
      have n2 : decide (i < s.length) = false := decide_eq_false hlt
      have HE := Sd.mk (show (s.take i).map (mapV op) = s.map (mapV op) by rw [List.take_of_length_le (by omega)])
      clear hlt hi
      go_wp2
      go_ret2
      have er := ER.out
      exact ⟨_, by rw [er]; rfl, by rw [er]; exact HE.out ▸ Kd.N_lower HO.out HBL.out.size, HBL.out.trans (HW.out.mono HBL.out.size)⟩
   ·have ER := Sd.mk (HRR.out.symm.trans (if_neg hk))
    have n0 : (kn == 0) = false := by simpa using hk
    have n1 : (kn != 0) = true := by simpa using hk
    clear hk HRR
    go_wp2
    go_ret2
    have er := ER.out
    exact ⟨.slice none 0 0, by rw [er]; rfl, by rw [er]; exact Kd.N_nil _ _ _ _ _, HBL.out⟩
 ·rw [if_neg h0]
  have n0 : (e0 == 0) = false := by simpa using h0
  have n1 : (e0 != 0) = true := by simpa using h0
  clear h0
  go_enter Tryz.func24, Tryz.ntmps24
  go_wp2_with fail
  refine HSo.out.mono ?_
  rintro e w1 ⟨v, rfl, hv, hb1⟩
  have HB := Sd.mk hb1
  clear hv hb1
  go_wp2
  go_ret2
  exact ⟨.slice none 0 0, rfl, Kd.N_nil _ _ _ _ _, HB.out⟩
def r10_do.f (k : Nat) (a0 : ByteArray) (a1_0 : Int) (a1_1 : Int) (a2_0 : Int) (a2_1 : Int) : Option (Int × Int) := (r8_Do.f k a0 (([(⟨a1_0, a1_1⟩ : S25), (⟨a2_0, a2_1⟩ : S25)] : List (S25)))).bind fun bt416 => (some (bt416.1, bt416.2.1))
theorem r10_do.calls (k : Nat) (a0 : ByteArray) (a1_0 : Int) (a1_1 : Int) (a2_0 : Int) (a2_1 : Int) (r1 : Int) (r2 : Int) (w : World) (h : r10_do.f k a0 a1_0 a1_1 a2_0 a2_1 = some (r1, r2)) :
  Calls Tryz.prog 49 #[.string a0, .agg #[.int .i64 a1_0, .int .i64 a1_1], .agg #[.int .i64 a2_0, .int .i64 a2_1]] w fun e w' => e = .returned (.agg #[.int .i64 r1, .int .i64 r2]) ∧ Below w.heap.size w w' := by
 have hu25 := Tryz.underlying25
 have HB := zsB w
 have H : ((r8_Do.f k a0 (([(⟨a1_0, a1_1⟩ : S25), (⟨a2_0, a2_1⟩ : S25)] : List (S25)))).bind fun bt416 => (some (bt416.1, bt416.2.1))) = some (r1, r2) := h
 clear h
 obtain ⟨y413, hy413⟩ : ∃ y_ : List (S25), y_ = (([(⟨a1_0, a1_1⟩ : S25), (⟨a2_0, a2_1⟩ : S25)] : List (S25))) := ⟨_, rfl⟩
 replace H : ((r8_Do.f k a0 y413).bind fun bt416 => (some (bt416.1, bt416.2.1))) = some (r1, r2) := by first | (rw [hy413]; with_reducible exact H) | (have H2_ := (Option.bind_some _ _).symm.trans H; rw [hy413]; with_reducible exact H2_) | (have H2_ := (Option.bind_some _ _).symm.trans H; with_reducible exact H2_) | with_reducible exact H | (rw [hy413]; exact H) | exact H
 have Ny413 := Sd.mk hy413
 clear hy413
 obtain ⟨⟨t416, t417, t418⟩, A4, H⟩ := bnd H
 replace H : (some (t416, t417)) = some (r1, r2) := H
 obtain ⟨rfl, rfl⟩ := zs2 H
 go_enter Tryz.func49, Tryz.ntmps49
 go_wp2_with (first | ((with_reducible refine gate_dst (N := 4) rfl ?_); refine bxe (N := 4) (cs := #[.int .i64 a1_0, .int .i64 a1_1]) (t := 25) ?_; intro gb410 hg w5 hbox hb; have BK410 := Sd.mk hbox; have GW410 := bge w hg; replace HB := bsq w hb; clear hb hbox hg) | ((with_reducible refine gate_dst (N := 5) rfl ?_); refine bxe (N := 5) (cs := #[.int .i64 a2_0, .int .i64 a2_1]) (t := 25) ?_; intro gb411 hg w6 hbox hb; have BK411 := Sd.mk hbox; have GW411 := bge w hg; have NB410_411 := bnl BK410 hg; have NB411_410 := bng BK410 hg; replace BK410 := bkb BK410 hb; replace HB := bsq w hb; clear hb hbox hg) | ((with_reducible refine gate_dst (N := 6) rfl ?_); refine bxe (N := 6) (cs := #[.int .i64 0, .int .i64 0]) (t := 25) ?_; intro gb412 hg w7 hbox hb; have BK412 := Sd.mk hbox; have GW412 := bge w hg; have NB410_412 := bnl BK410 hg; have NB412_410 := bng BK410 hg; have NB411_412 := bnl BK411 hg; have NB412_411 := bng BK411 hg; replace BK410 := bkb BK410 hb; replace BK411 := bkb BK411 hb; replace HB := bsq w hb; clear hb hbox hg; have hnb8 := NB410_411.out; have hnc8 := NB411_410.out; have hnb9 := NB410_412.out; have hnc9 := NB412_410.out; have hcz10_0 := bz0 BK410; have hcz10_1 := bz1 BK410; have hfz10_0 := blk_frozen BK410.out 0; have hfz10_1 := blk_frozen BK410.out 1; have hnb11 := NB411_412.out; have hnc11 := NB412_411.out; have hcz12_0 := bz0 BK411; have hcz12_1 := bz1 BK411; have hfz12_0 := blk_frozen BK411.out 0; have hfz12_1 := blk_frozen BK411.out 1) | ((with_reducible refine gate_dst (N := 13) rfl ?_); refine Kd.R_lit k25 _ 25 ?hg (N := 13) ?hd (xs := ([(⟨a1_0, a1_1⟩ : S25), (⟨a2_0, a2_1⟩ : S25)] : List (S25))) (inner := [.int .i64 a1_0, .int .i64 a1_1, .int .i64 a2_0, .int .i64 a2_1]) (ok := fun _ => True) (okp := fun _ => True) ?hr ?hp (fun _ hk => hk) trivial (Below.refl _ _) (Nat.le_refl _) (by simp) ?_; (case hd => rfl); (case hg => rfl); (case hr => first | (go_simp; done) | (go_simp; rfl)); (case hp => exact (Reps.c2 (show Kd.M k25 _ _ _ (⟨a1_0, a1_1⟩ : S25) [.int .i64 a1_0, .int .i64 a1_1] from (k25_mkM _ _ _ (⟨a1_0, a1_1⟩ : S25) )) (Reps.c2 (show Kd.M k25 _ _ _ (⟨a2_0, a2_1⟩ : S25) [.int .i64 a2_0, .int .i64 a2_1] from (k25_mkM _ _ _ (⟨a2_0, a2_1⟩ : S25) )) (Reps.none _ _)))); intro v414 w13 ho14 hb hg_ hnew_; clear hg_ hnew_; (first | rw [← Ny413.out] at ho14 | (simp only [Int.reduceToNat] at ho14; rw [← Ny413.out] at ho14)); have n0_ := Sd.mk (Kd.R_lower (Kd.R_newB (Kd.R_newB (Kd.R_newB ho14 (g := gb410) (o := .cells #[.int .i64 a1_0, .int .i64 a1_1] 25 (0, 0)) (by exact blkF BK410.out)) (g := gb411) (o := .cells #[.int .i64 a2_0, .int .i64 a2_1] 25 (0, 0)) (by exact blkF BK411.out)) (g := gb412) (o := .cells #[.int .i64 0, .int .i64 0] 25 (0, 0)) (by exact blkF BK412.out)) (below_size bbl)); have n1_ := bkb BK410 hb; have n2_ := bkb BK411 hb; have n3_ := bkb BK412 hb; have n4_ := bsq w hb; clear BK410; clear BK411; clear BK412; clear HB; have HO415 := n0_; have BK410 := n1_; have BK411 := n2_; have BK412 := n3_; have HB := n4_; clear n0_ n1_ n2_ n3_ n4_; clear hb ho14; obtain ⟨Ao15, co15, eo15⟩ := Kd.R_slice HO415.out; subst eo15) | ((with_reducible refine gate_callee (f := 17) rfl ?_); refine goesL_ (some 14) rfl rfl Tryz.func17 (by kernel_rfl) rfl #[.string a0, .slice Ao15 y413.length co15] rfl ma ?_; (with_reducible refine (r8_Do.calls k a0 _ _ y413 t416 t417 t418 _ ?side1 ?side2 A4.out).mono ?_); (case side1 => repeat (first | exact (Kd.R_reads' HO415.out).2.2 | (with_reducible refine Kd.C_alloc ?_ _) | (with_reducible refine Kd.C_drewN ?_ _) | (with_reducible refine Kd.C_drew ?_))); (case side2 => exact (Kd.R_reads' HO415.out).2.1); rintro e w16 ⟨rfl, hb⟩; refine ⟨_, rfl, ?_⟩; replace HO415 := brb HO415 hb; replace BK410 := bkb BK410 hb; replace BK411 := bkb BK411 hb; replace BK412 := bkb BK412 hb; replace HB := bsq w hb; (try clear hb)) | ((with_reducible refine gate_dst (N := 7) rfl ?_); refine bxe (N := 7) (cs := #[.int .i64 0, .int .i64 0]) (t := 25) ?_; intro gb419 hg w17 hbox hb; have n0_ := Sd.mk (Kd.R_below (Kd.R_elderB (by (repeat refine dR ?_); exact HO415.out) gb419 (Nat.le_of_eq hg.symm)) hb); have n1_ := bkb BK410 hb; have n2_ := bkb BK411 hb; have n3_ := bkb BK412 hb; have n4_ := bsq w hb; have n5_ := Sd.mk (hbox); have n6_ := bge w hg; have n7_ := bge w hg; have n8_ := bnl BK410 hg; have n9_ := bng BK410 hg; have n10_ := bnl BK411 hg; have n11_ := bng BK411 hg; have n12_ := bnl BK412 hg; have n13_ := bng BK412 hg; clear HO415; clear BK410; clear BK411; clear BK412; clear HB; have HO415 := n0_; have BK410 := n1_; have BK411 := n2_; have BK412 := n3_; have HB := n4_; have BK419 := n5_; have GW419 := n6_; have GE419 := n7_; have NB410_419 := n8_; have NB419_410 := n9_; have NB411_419 := n10_; have NB419_411 := n11_; have NB412_419 := n12_; have NB419_412 := n13_; clear n0_ n1_ n2_ n3_ n4_ n5_ n6_ n7_ n8_ n9_ n10_ n11_ n12_ n13_; clear hb hbox hg; have hnb18 := NB419_410.out; have hnc18 := NB410_419.out; have hnb19 := NB419_411.out; have hnc19 := NB411_419.out; have hnb20 := NB419_412.out; have hnc20 := NB412_419.out; have hcz21_0 := bz0 BK419; have hcz21_1 := bz1 BK419; have hfz21_0 := blk_frozen BK419.out 0; have hfz21_1 := blk_frozen BK419.out 1; have hcz22_0 := bz0 BK412; have hcz22_1 := bz1 BK412; have hfz22_0 := blk_frozen BK412.out 0; have hfz22_1 := blk_frozen BK412.out 1))
 refine bodyPost_ret (results_cell_row rfl _ _ gb412 25 #[.int .i64 t416, .int .i64 t417] (0, 0) _ rfl (by (repeat refine dw ?_); refine blk_put (cs := #[.int .i64 t416, .int .i64 0]) ?_ 1 _ rfl; (repeat refine dw ?_); refine blk_put (cs := #[.int .i64 0, .int .i64 0]) ?_ 0 _ rfl; (repeat refine dw ?_); refine blk_far ?_ NB412_419.out _; (repeat refine dw ?_); refine blk_far ?_ NB412_419.out _; (repeat refine dw ?_); exact BK412.out) Tryz.underlying25 rfl (by kernel_rfl)) rfl ?_
 exact ⟨fe, bbl⟩
theorem rwithin_calls (A B : Option Addr) (c d : Nat) (a b : List Lab) (ha : a.length < 4611686018427387904) (hb : b.length < 4611686018427387904) (hc : a.length ≤ c) (hd : b.length ≤ d) (w : World) (hA : Kd.C k62 w A a.length a) (hB : Kd.C k62 w B b.length b) :
  Calls Tryz.prog 68 #[.slice A a.length c, .slice B b.length d] w fun e w' => e = .returned (.bool (inR a b)) ∧ Below w.heap.size w w' := by
 obtain ⟨k, hk⟩ := (within_ev a b ha hb).rounds
 refine (r10_within.calls k A c a B d b _ w hA hc hB hd hk).mono fun e w' ⟨he, hw⟩ => ⟨he, ?_⟩
 obtain ⟨n, rfl⟩ := hw
 exact pbd (Below.refl _ _) n
theorem rdo10_ev' (op : ByteArray) (a b : V) {r1 r2 r3 : Int} (h : vDo op [a, b] = ((r1, r2), r3)) : Ev (fun k => r10_do.f k op a.1 a.2 b.1 b.2) (r1, r2) := by
 unfold r10_do.f
 have e := rdo_ev op [⟨a.1, a.2⟩, ⟨b.1, b.2⟩] (by simp)
 have e2 : vDo op ([(⟨a.1, a.2⟩ : S25), ⟨b.1, b.2⟩].map sv) = ((r1, r2), r3) := h
 rw [e2] at e
 refine Ev.bind (f := fun _ (bt : Int × Int × Int) => some (bt.1, bt.2.1)) e ?_
 exact Ev.now _
theorem rdo10_calls (op : ByteArray) (a1 a2 b1 b2 : Int) {r1 r2 r3 : Int} (h : vDo op [(a1, a2), (b1, b2)] = ((r1, r2), r3)) (w : World) :
  Calls Tryz.prog 49 #[.string op, .agg #[.int .i64 a1, .int .i64 a2], .agg #[.int .i64 b1, .int .i64 b2]] w fun e w' => e = .returned (.agg #[.int .i64 r1, .int .i64 r2]) ∧ Below w.heap.size w w' := by
 obtain ⟨k, hk⟩ := (rdo10_ev' op (a1, a2) (b1, b2) h).rounds
 exact r10_do.calls k op a1 a2 b1 b2 r1 r2 w hk
section
variable {ops : Array Oper} {rest : List Oper} {o : Oper} {a : Act} {Q : Exit → Act → World → Prop}
/-- append(v, y), y's row laid just now. -/
theorem app37_one {wc W : World} (hgd : o.guard = none) (s x : Operand) (ho : o.op = .call { callee := .builtin .append, args := #[s, x], argTypes := #[33, 33] })
  (v : Value) (xs : List Ser) (y : Ser) (cs : List Value) (hs : a.eval s = v) (hx : a.eval x = .slice (some ⟨W.heap.size, 0, none⟩) 1 1)
  (HO : Kd.N k37 37 W wc.heap.size (fun _ => True) v xs) (HF : Kd.FK k37 wc (fun k => k < wc.heap.size) y cs) (HB : Below wc.heap.size wc W) (hl : (xs.length + 1) * 40 ≤ 140737488355328)
  (h : ∀ v1 w1, Kd.N k37 37 w1 wc.heap.size (fun _ => True) v1 (xs ++ [y]) → Below wc.heap.size wc w1 → wpList Tryz.prog ops Q rest (a.put o.dst v1) w1) :
  wpList Tryz.prog ops Q (o :: rest) a (W.alloc (.cells cs.toArray 37)) := by
 have hnb := fun k => Kd.N_base HO k
 exact Kd.N_append k37 (w0 := wc) wc.heap.size hgd s x 33 37 (.agg #[(.slice none 0 0), (.int .i64 0), (.int .i64 0)]) 40 ho Tryz.underlying33 info37 rfl (by decide) (by omega) v xs y cs (fun _ => True) (fun k => k < wc.heap.size) hs hx (Kd.FK_below HF HB) (fun k hk => ⟨trivial, fun e => by have := hnb k e.symm; omega⟩) (fun _ _ => trivial) HO HB HB.size hl (fun v1 w1 h1 h2 _ _ => h v1 w1 h1 h2)
end
/-- Two elements that are read. -/
def TwoS (ad bd : Addr) (A0 B0 : Option Addr) (n c m d : Nat) (x1 x2 y1 y2 : Int) (w' : World) : Prop := w'.cell? ad = some (.slice A0 n c) ∧ w'.cell? ⟨ad.block, ad.off + 1, none⟩ = some (.int .i64 x1) ∧ w'.cell? ⟨ad.block, ad.off + 2, none⟩ = some (.int .i64 x2) ∧ w'.cell? bd = some (.slice B0 m d) ∧ w'.cell? ⟨bd.block, bd.off + 1, none⟩ = some (.int .i64 y1) ∧ w'.cell? ⟨bd.block, bd.off + 2, none⟩ = some (.int .i64 y2)
section
variable {ad bd : Addr} {A0 B0 : Option Addr} {n c m d : Nat} {x1 x2 y1 y2 : Int} {w1 w2 : World}
theorem TwoS.below (h : TwoS ad bd A0 B0 n c m d x1 x2 y1 y2 w1) (hb : Below w1.heap.size w1 w2) : TwoS ad bd A0 B0 n c m d x1 x2 y1 y2 w2 := ⟨pw_cell_below hb h.1, pw_cell_below hb h.2.1, pw_cell_below hb h.2.2.1, pw_cell_below hb h.2.2.2.1, pw_cell_below hb h.2.2.2.2.1, pw_cell_below hb h.2.2.2.2.2⟩
theorem TwoS.drew (h : TwoS ad bd A0 B0 n c m d x1 x2 y1 y2 w1) : TwoS ad bd A0 B0 n c m d x1 x2 y1 y2 w1.drew := h.below (Below.refl _ _).drew
theorem TwoS.alloc (h : TwoS ad bd A0 B0 n c m d x1 x2 y1 y2 w1) (o : Obj) : TwoS ad bd A0 B0 n c m d x1 x2 y1 y2 (w1.alloc o) := h.below (below1 w1 o)
theorem TwoS.set (h : TwoS ad bd A0 B0 n c m d x1 x2 y1 y2 w1) {N j : Nat} {u : Value} (n1 : ad.block ≠ N) (n2 : bd.block ≠ N) : TwoS ad bd A0 B0 n c m d x1 x2 y1 y2 (w1.setCell ⟨N, j, none⟩ u) :=
 ⟨(cell_far (p := ⟨N, j, none⟩) (a := ad) n1 u).trans h.1, (cell_far (p := ⟨N, j, none⟩) (a := ⟨ad.block, ad.off + 1, none⟩) n1 u).trans h.2.1, (cell_far (p := ⟨N, j, none⟩) (a := ⟨ad.block, ad.off + 2, none⟩) n1 u).trans h.2.2.1, (cell_far (p := ⟨N, j, none⟩) (a := bd) n2 u).trans h.2.2.2.1, (cell_far (p := ⟨N, j, none⟩) (a := ⟨bd.block, bd.off + 1, none⟩) n2 u).trans h.2.2.2.2.1, (cell_far (p := ⟨N, j, none⟩) (a := ⟨bd.block, bd.off + 2, none⟩) n2 u).trans h.2.2.2.2.2⟩
end
theorem rjoin_calls (op : ByteArray) (A B : Option Addr) (c d : Nat) (a b : List Ser) (ha : SersOk a) (hb : SersOk b) (w : World) (hA : Kd.C k37 w A a.length a) (hB : Kd.C k37 w B b.length b) :
  Calls Tryz.prog 25 #[.string op, .slice A a.length c, .slice B b.length d] w fun e w' => ∃ v : Value, e = .returned (.tuple #[v, .int .i64 (vJoin op a b).2]) ∧ Kd.N k37 37 w' w.heap.size (fun _ => True) v (vJoin op a b).1 ∧ Below w.heap.size w w' := by
 have mixed : Tryz.prog.follows .mixedOrders = true := by kernel_rfl
 have HSa := Sd.mk (rsort_calls A c a ha w hA)
 have HSb := Sd.mk (fun (w1 : World) (h : Below w.heap.size w w1) => rsort_calls B d b hb w1 (Kd.C_below hB h))
 have HMa := Sd.mk (fun (h : (vSort a).2 = 0) => And.intro (fun x hx => (vSort_ok h).1 x ((vSort_mem h).1 hx)) (vSort_len h))
 have HMb := Sd.mk (fun (h : (vSort b).2 = 0) => And.intro (fun x hx => (vSort_ok h).1 x ((vSort_mem h).1 hx)) (vSort_len h))
 unfold vJoin
 clear ha hb hA hB
 generalize vSort a = ra at HSa HMa ⊢
 generalize vSort b = rb at HSb HMb ⊢
 obtain ⟨p, e1⟩ := ra
 obtain ⟨q, e2⟩ := rb
 simp only at HSa HSb HMa HMb ⊢
 rcases hkn : vDo op [(1, 0), (1, 0)] with ⟨⟨n1, n2⟩, kn⟩
 have HKN := Sd.mk (rdo2 op 1 0 1 0 hkn)
 simp only
 clear hkn
 by_cases h1 : e1 = 0
 ·subst h1
  rw [if_pos rfl]
  by_cases h2 : e2 = 0
  ·subst h2
   rw [if_pos rfl]
   have hPs := (HMa.out rfl).1
   have hQs := (HMb.out rfl).1
   have lp := (HMa.out rfl).2
   have lq := (HMb.out rfl).2
   have HPs := Sd.mk hPs
   have HQs := Sd.mk hQs
   have HOK := Sd.mk (pairsJ_ok (op := op) hPs hQs lp lq)
   clear hPs hQs HMa HMb
   generalize hrr : (if kn = 0 then vSort (pairsJ op p q) else (([] : List Ser), (2 : Int))) = r
   have HRR := Sd.mk hrr
   clear hrr
   go_enter Tryz.func25, Tryz.ntmps25
   go_wp2_with fail
   refine HSa.out.mono ?_
   rintro e w1 ⟨va, rfl, hva, hb1⟩
   have HB1 := Sd.mk hb1
   have HSb1 := Sd.mk (HSb.out w1 hb1)
   obtain ⟨A3, c3, rfl, hc3, hC3⟩ := Kd.N_reads hva
   have HCa := Sd.mk hC3
   clear hva hb1 HSb HSa hC3
   go_wp2_with fail
   refine HSb1.out.mono ?_
   rintro e w2 ⟨vb, rfl, hvb, hb2⟩
   have HB2 := Sd.mk (HB1.out.trans (hb2.mono HB1.out.size))
   have HCa2 := Sd.mk (Kd.C_below HCa.out hb2)
   obtain ⟨B3, d3, rfl, hd3, hC3⟩ := Kd.N_reads hvb
   have HCb2 := Sd.mk hC3
   clear hvb hb2 HB1 HCa HSb1 hC3
   go_upto_region 7 with fail
   go_cut [13] from 36 to 44 (fun v13 wx => v13 = .int .i64 kn ∧ Sd (Below w2.heap.size w2 wx))
   case first =>
    go_wp2_with fail
    refine (rnum_calls 0 (by omega) (by omega) w2).mono ?_
    rintro e w3 ⟨rfl, hb3⟩
    have HB3 := Sd.mk hb3
    clear hb3
    go_wp2_with fail
    refine (rnum_calls 0 (by omega) (by omega) w3).mono ?_
    rintro e w4 ⟨rfl, hb4⟩
    have HB4 := Sd.mk (HB3.out.trans (hb4.mono HB3.out.size))
    clear hb4
    go_wp2_with fail
    refine (HKN.out _ _ (blk_new w4 _)).mono ?_
    rintro e w5 ⟨rfl, hb5⟩
    have HB5 := Sd.mk (HB4.out.trans (((below1 w4 _).trans (hb5.mono (size_new _ _))).mono HB4.out.size))
    clear hb5
    go_wp2
    go_meet
    exact ⟨rfl, ⟨bal HB5.out _⟩⟩
   case rest =>
    obtain ⟨rfl, HB3⟩ := hcut
    rename World => wL
    have HCp := Sd.mk (Kd.C_below HCa2.out HB3.out)
    have HCq := Sd.mk (Kd.C_below HCb2.out HB3.out)
    have HBL := Sd.mk (HB2.out.trans (HB3.out.mono HB2.out.size))
    clear HB2 HB3 HCa2 HCb2 HKN
    by_cases hk : kn = 0
    ·subst hk
     have ER := Sd.mk (HRR.out.symm.trans (if_pos rfl))
     clear HRR
     go_wp2
     go_loopw [14, 15] (fun v14 v15 wr => ∃ i : Nat, i ≤ p.length ∧ v15 = .int .i64 i ∧ Sd (Kd.N k37 37 wr wL.heap.size (fun _ => True) v14 (pairsJ op (p.take i) q)) ∧ Sd (Below wL.heap.size wL wr)) (fun _ v15 _ => p.length - (intOf v15).toNat)
     case atStart => exact ⟨0, Nat.zero_le _, rfl, ⟨Kd.N_nil _ _ _ _ _⟩, ⟨Below.refl _ _⟩⟩
     case round =>
      obtain ⟨i, hi, rfl, HO, HW⟩ := hrel
      rename World => wo
      by_cases hlt : i < p.length
      ·have b1 : (i : Int) < (p.length : Int) := by omega
       have b2 : (0 : Int) ≤ (i : Int) := by omega
       have HPst := Sd.mk (pairsJ_step op p q i hlt)
       have HxS := Sd.mk (HPs.out _ (List.getElem_mem hlt))
       have HoL := Sd.mk (Nat.le_trans (pairsJ_len op q (p.take i)) (Nat.mul_le_mul (by rw [List.length_take]; omega : (p.take i).length ≤ 200) lq))
       obtain ⟨ad, Ax, cx, hAe, o0, o1, o2, hKx⟩ := came_at HCp.out i hlt
       subst hAe
       obtain ⟨_, _, ecs, hlx, hLx⟩ := k37_open (Kd.FK_now hKx)
       injection ecs with e1 _
       injection e1 with e1 _ e3
       subst e1
       subst e3
       have HKx := Sd.mk hKx
       have HLx := Sd.mk hLx
       clear hKx hLx
       generalize p[i] = x at o0 o1 o2 HKx HLx HPst HxS hlx
       generalize hout : pairsJ op (p.take i) q = out0 at HO HPst HoL
       clear hout
       go_wp2
       go_loopw [14, 16] (fun v14 v16 wr2 => ∃ j : Nat, j ≤ q.length ∧ v16 = .int .i64 j ∧ Sd (Kd.N k37 37 wr2 wL.heap.size (fun _ => True) v14 (out0 ++ rowJ op x (q.take j))) ∧ Sd (Below wL.heap.size wL wr2)) (fun _ v16 _ => q.length - (intOf v16).toNat)
       case atStart => exact ⟨0, Nat.zero_le _, rfl, ⟨by simpa [rowJ] using HO.out⟩, HW⟩
       case round =>
        clear HO HW
        obtain ⟨j, hj, rfl, HO, HW⟩ := hrel
        rename World => wq
        by_cases hlj : j < q.length
        ·have b3 : (j : Int) < (q.length : Int) := by omega
         have b4 : (0 : Int) ≤ (j : Int) := by omega
         have HRs := Sd.mk (rowJ_step op x q j hlj)
         have HyS := Sd.mk (HQs.out _ (List.getElem_mem hlj))
         have HLen := Sd.mk (show ((out0 ++ rowJ op x (q.take j)).length + 1) * 40 ≤ 140737488355328 by
          have e1 := rowJ_len op x (q.take j)
          have e2 : (q.take j).length ≤ 200 := by rw [List.length_take]; omega
          have e3 := HoL.out
          rw [List.length_append]
          omega)
         obtain ⟨bd, By, dy, hBe, r0, r1, r2, hKy⟩ := came_at HCq.out j hlj
         subst hBe
         obtain ⟨_, _, ecs, hly, hLy⟩ := k37_open (Kd.FK_now hKy)
         injection ecs with e1 _
         injection e1 with e1 _ e3
         subst e1
         subst e3
         have HKy := Sd.mk hKy
         have HLy := Sd.mk hLy
         clear hKy hLy
         generalize q[j] = y at r0 r1 r2 HKy HLy HRs HyS hly
         have S0 : TwoS (ad.add (i * 3)) (bd.add (j * 3)) Ax By x.f0.length cx y.f0.length dy x.f1.f0 x.f1.f1 y.f1.f0 y.f1.f1 wq := ⟨pw_cell_below HW.out o0, pw_cell_below HW.out o1, pw_cell_below HW.out o2, pw_cell_below HW.out r0, pw_cell_below HW.out r1, pw_cell_below HW.out r2⟩
         have sA : (ad.add (i * 3)).block < wq.heap.size := World.block_lt_of_cell? wq _ S0.1
         have sB : (bd.add (j * 3)).block < wq.heap.size := World.block_lt_of_cell? wq _ S0.2.2.2.1
         rw [add_block] at sA sB
         have z := S0
         obtain ⟨z0, z1, z2, z3, z4, z5⟩ := z
         go_wp2_with fail
         go_cut [17, 18] from 58 to 66 (fun v17 v18 wx => ∃ N M : Nat, v17 = .pointer (some ⟨N, 0, none⟩) ∧ v18 = .pointer (some ⟨M, 0, none⟩) ∧ Sd (Below wq.heap.size wq wx ∧ wx.heap[N]? = some (.cells #[.slice Ax x.f0.length cx, .int .i64 x.f1.f0, .int .i64 x.f1.f1] 37 (0, 0)) ∧ wx.heap[M]? = some (.cells #[.slice By y.f0.length dy, .int .i64 y.f1.f0, .int .i64 y.f1.f1] 37 (0, 0))))
         case first =>
          go_region_held3 (fun w' => w'.cell? (ad.add (i * 3)) = some (.slice Ax x.f0.length cx) ∧ w'.cell? ⟨(ad.add (i * 3)).block, (ad.add (i * 3)).off + 1, none⟩ = some (.int .i64 x.f1.f0) ∧ w'.cell? ⟨(ad.add (i * 3)).block, (ad.add (i * 3)).off + 2, none⟩ = some (.int .i64 x.f1.f1) ∧ w'.cell? (bd.add (j * 3)) = some (.slice By y.f0.length dy) ∧ w'.cell? ⟨(bd.add (j * 3)).block, (bd.add (j * 3)).off + 1, none⟩ = some (.int .i64 y.f1.f0) ∧ w'.cell? ⟨(bd.add (j * 3)).block, (bd.add (j * 3)).off + 2, none⟩ = some (.int .i64 y.f1.f1)) (first | exact TwoS.drew (by assumption) | exact TwoS.alloc (by assumption) _ | exact TwoS.set (TwoS.set (TwoS.set (by assumption) (by first | omega | (rw [add_block]; omega)) (by first | omega | (rw [add_block]; omega))) (by first | omega | (rw [add_block]; omega)) (by first | omega | (rw [add_block]; omega))) (by first | omega | (rw [add_block]; omega)) (by first | omega | (rw [add_block]; omega)) | go_keep) (fail)
          all_goals (go_wp2_with fail; go_meet)
          all_goals (refine ⟨_, _, rfl, rfl, ⟨?_, ?_, ?_⟩⟩)
          all_goals first
           | ((repeat (first | exact Below.refl _ _ | apply bal | apply bd1)); done)
           | ((repeat (first | exact blk_new _ _ | exact blk_new2 _ _ _ | (with_reducible refine blk_drew ?_) | (with_reducible refine blk_alloc ?_ _))); done)
         case rest =>
          obtain ⟨N, M, rfl, rfl, HX⟩ := hcut
          rename World => wx
          have HW2 := Sd.mk (HW.out.trans (HX.out.1.mono HW.out.size))
          have HO2 := Sd.mk (Kd.N_below HO.out HX.out.1)
          have HX1 := Sd.mk HX.out.2.1
          have HX2 := Sd.mk HX.out.2.2
          have lx := (set_ok HxS.out).1.1
          have ly := (set_ok HyS.out).1.1
          have HI1 := Sd.mk (fun (w1 : World) (h : Below wx.heap.size wx w1) => rwithin_calls Ax By cx dy x.f0 y.f0 lx ly hlx hly w1 (Kd.C_below HLx.out (HW2.out.trans (h.mono HW2.out.size))) (Kd.C_below HLy.out (HW2.out.trans (h.mono HW2.out.size))))
          have HI2 := Sd.mk (fun (w1 : World) (h : Below wx.heap.size wx w1) => rwithin_calls By Ax dy cx y.f0 x.f0 ly lx hly hlx w1 (Kd.C_below HLy.out (HW2.out.trans (h.mono HW2.out.size))) (Kd.C_below HLx.out (HW2.out.trans (h.mono HW2.out.size))))
          have HFt := Sd.mk (fits_doc HxS.out HyS.out)
          generalize inR x.f0 y.f0 = k1 at HI1 HFt
          generalize inR y.f0 x.f0 = k2 at HI2 HFt
          have z0 := blk_cell HX1.out 0
          have z1 := blk_cell HX1.out 1
          have z2 := blk_cell HX1.out 2
          have y0 := blk_cell HX2.out 0
          have y1 := blk_cell HX2.out 1
          have y2 := blk_cell HX2.out 2
          clear HO HW HX o0 o1 o2 r0 r1 r2 S0 sA sB
          go_upto_region 18 with fail
          go_cut [79] from 66 to 80 (fun v79 wy => ∃ b : Bool, v79 = .bool b ∧ Sd (fits x y = !b) ∧ Sd (Below wx.heap.size wx wy))
          case first =>
           cases k1 with
           | true =>
            go_wp2_with fail
            refine (HI1.out _ (Below.refl _ _)).mono ?_
            rintro e w1 ⟨rfl, hb1⟩
            have HB1 := Sd.mk hb1
            clear hb1
            go_wp2
            go_meet
            exact ⟨_, rfl, ⟨HFt.out⟩, HB1⟩
           | false =>
            go_wp2_with fail
            refine (HI1.out _ (Below.refl _ _)).mono ?_
            rintro e w1 ⟨rfl, hb1⟩
            have HB1 := Sd.mk hb1
            replace z0 := pw_cell_below hb1 z0
            replace y0 := pw_cell_below hb1 y0
            clear hb1 z1 z2 y1 y2
            go_wp2_with fail
            refine (HI2.out _ HB1.out).mono ?_
            rintro e w4 ⟨rfl, hb4⟩
            have HB4 := Sd.mk (HB1.out.trans (hb4.mono HB1.out.size))
            clear hb4
            go_wp2
            go_meet
            exact ⟨_, rfl, ⟨by rw [HFt.out]; simp⟩, HB4⟩
          case rest =>
           obtain ⟨b, rfl, HFb, HB3⟩ := hcut
           rename World => wy
           have HW3 := Sd.mk (HW2.out.trans (HB3.out.mono HW2.out.size))
           have HO3 := Sd.mk (Kd.N_below HO2.out HB3.out)
           replace z1 := pw_cell_below HB3.out z1
           replace z2 := pw_cell_below HB3.out z2
           replace y1 := pw_cell_below HB3.out y1
           replace y2 := pw_cell_below HB3.out y2
           replace z0 := pw_cell_below HB3.out z0
           replace y0 := pw_cell_below HB3.out y0
           clear HI1 HI2 HFt HW2 HO2 HX1 HX2 lx ly HB3
           cases b with
           | true =>
            have HRt := Sd.mk (HRs.out.trans (by rw [HFb.out]; exact List.append_nil _ : _ = rowJ op x (q.take j)))
            clear HRs HFb
            go_wp2
            go_roundw
            case measure => simp [intOf]; omega
            case rel => exact ⟨j + 1, by omega, by go_num, ⟨by rw [HRt.out]; exact HO3.out⟩, HW3⟩
           | false =>
            have HFt : fits x y = true := HFb.out
            rcases hdo : vDo op [(x.f1.f0, x.f1.f1), (y.f1.f0, y.f1.f1)] with ⟨⟨r1, r2⟩, r3⟩
            have HD := Sd.mk (fun w1 => rdo10_calls op x.f1.f0 x.f1.f1 y.f1.f0 y.f1.f1 hdo w1)
            by_cases hlen : x.f0.length < y.f0.length
            ·have m1 : decide ((y.f0.length : Int) > (x.f0.length : Int)) = true := decide_eq_true (by omega)
             have m2 : decide (x.f0.length < y.f0.length) = true := decide_eq_true hlen
             have HRt := Sd.mk (HRs.out.trans (by rw [if_pos HFt, joinS_doc HxS.out HyS.out HFt, hdo, if_pos hlen] : _ = rowJ op x (q.take j) ++ [(⟨y.f0, ⟨r1, r2⟩⟩ : Ser)]))
             have HFz := Sd.mk (FK_val HKy.out ⟨r1, r2⟩)
             clear hlen hdo
             go_wp2_with fail
             refine (HD.out _).mono ?_
             rintro e w8 ⟨rfl, hb8⟩
             have HO8 := Sd.mk (Kd.N_below HO3.out hb8)
             have HW8 := Sd.mk (HW3.out.trans (hb8.mono HW3.out.size))
             clear hb8
             go_wp2_with ((with_reducible refine gate_builtin (b := .append) (xs := #[.tmp 90, .tmp 99]) rfl ?_); at_builtin; refine app37_one (wc := wL) rfl (.tmp 90) (.tmp 99) rfl u14 (out0 ++ rowJ op x (q.take j)) ⟨y.f0, ⟨r1, r2⟩⟩ [.slice By y.f0.length dy, .int .i64 r1, .int .i64 r2] rfl ?aX HO8.out HFz.out HW8.out HLen.out ?_; (case aX => first | rfl | (go_simp; done)); intro v7 w9 ho hb9; have HO9 := Sd.mk ho; have HW9 := Sd.mk hb9; clear ho hb9)
             go_roundw
             case measure => simp [intOf]; omega
             case rel => exact ⟨j + 1, by omega, by go_num, ⟨by rw [HRt.out, ← List.append_assoc]; exact HO9.out⟩, HW9⟩
            ·have m1 : decide ((y.f0.length : Int) > (x.f0.length : Int)) = false := decide_eq_false (by omega)
             have m2 : decide (x.f0.length < y.f0.length) = false := decide_eq_false hlen
             have HRt := Sd.mk (HRs.out.trans (by rw [if_pos HFt, joinS_doc HxS.out HyS.out HFt, hdo, if_neg hlen] : _ = rowJ op x (q.take j) ++ [(⟨x.f0, ⟨r1, r2⟩⟩ : Ser)]))
             have HFz := Sd.mk (FK_val HKx.out ⟨r1, r2⟩)
             clear hlen hdo
             go_wp2_with fail
             refine (HD.out _).mono ?_
             rintro e w8 ⟨rfl, hb8⟩
             have HO8 := Sd.mk (Kd.N_below HO3.out hb8)
             have HW8 := Sd.mk (HW3.out.trans (hb8.mono HW3.out.size))
             clear hb8
             go_wp2_with ((with_reducible refine gate_builtin (b := .append) (xs := #[.tmp 90, .tmp 99]) rfl ?_); at_builtin; refine app37_one (wc := wL) rfl (.tmp 90) (.tmp 99) rfl u14 (out0 ++ rowJ op x (q.take j)) ⟨x.f0, ⟨r1, r2⟩⟩ [.slice Ax x.f0.length cx, .int .i64 r1, .int .i64 r2] rfl ?aX HO8.out HFz.out HW8.out HLen.out ?_; (case aX => first | rfl | (go_simp; done)); intro v7 w9 ho hb9; have HO9 := Sd.mk ho; have HW9 := Sd.mk hb9; clear ho hb9)
             go_roundw
             case measure => simp [intOf]; omega
             case rel => exact ⟨j + 1, by omega, by go_num, ⟨by rw [HRt.out, ← List.append_assoc]; exact HO9.out⟩, HW9⟩
        ·have n1 : decide ((j : Int) < (q.length : Int)) = false := decide_eq_false (by omega)
         have n2 : decide (j < q.length) = false := decide_eq_false hlj
         have HE := Sd.mk (show pairsJ op (p.take (i + 1)) q = out0 ++ rowJ op x (q.take j) by rw [HPst.out, List.take_of_length_le (by omega : q.length ≤ j)])
         clear hlj hj
         go_wp2
         go_roundw
         case measure => simp [intOf]; omega
         case rel => exact ⟨i + 1, by omega, by go_num, ⟨by rw [HE.out]; exact HO.out⟩, HW⟩
      ·have n1 : decide ((i : Int) < (p.length : Int)) = false := decide_eq_false (by omega)
       have n2 : decide (i < p.length) = false := decide_eq_false hlt
       have HE := Sd.mk (show pairsJ op (p.take i) q = pairsJ op p q by rw [List.take_of_length_le (by omega)])
       rw [HE.out] at HO
       obtain ⟨A6, c6, rfl, _, hC6⟩ := Kd.N_reads HO.out
       have HS := Sd.mk (rsort_calls A6 c6 (pairsJ op p q) HOK.out wo hC6)
       rw [← ER.out] at HS
       clear hlt hi hC6 HE HO
       go_wp2_with fail
       refine HS.out.mono ?_
       rintro e w9 ⟨v9, rfl, hv9, hb9⟩
       have HBo := Sd.mk (HBL.out.trans (HW.out.mono HBL.out.size))
       have HV9 := Sd.mk (Kd.N_lower hv9 HBo.out.size)
       have HB9 := Sd.mk (HBo.out.trans (hb9.mono HBo.out.size))
       clear hv9 hb9
       go_wp2
       go_ret2
       exact ⟨v9, rfl, HV9.out, HB9.out⟩
    ·have ER := Sd.mk (HRR.out.symm.trans (if_neg hk))
     have n0 : (kn == 0) = false := by simpa using hk
     have n1 : (kn != 0) = true := by simpa using hk
     clear hk HRR
     go_wp2
     go_ret2
     have er := ER.out
     exact ⟨.slice none 0 0, by rw [er]; rfl, by rw [er]; exact Kd.N_nil _ _ _ _ _, HBL.out⟩
  ·rw [if_neg h2]
   have n0 : (e2 == 0) = false := by simpa using h2
   have n1 : (e2 != 0) = true := by simpa using h2
   clear h2 HMa HMb
   go_enter Tryz.func25, Tryz.ntmps25
   go_wp2_with fail
   refine HSa.out.mono ?_
   rintro e w1 ⟨va, rfl, hva, hb1⟩
   have HB1 := Sd.mk hb1
   have HSb1 := Sd.mk (HSb.out w1 hb1)
   clear hva hb1 HSb HSa
   go_wp2_with fail
   refine HSb1.out.mono ?_
   rintro e w2 ⟨vb, rfl, hvb, hb2⟩
   have HB2 := Sd.mk (HB1.out.trans (hb2.mono HB1.out.size))
   clear hvb hb2 HB1 HSb1
   go_wp2
   go_ret2
   exact ⟨.slice none 0 0, rfl, Kd.N_nil _ _ _ _ _, HB2.out⟩
 ·rw [if_neg h1]
  have n0 : (e1 == 0) = false := by simpa using h1
  have n1 : (e1 != 0) = true := by simpa using h1
  clear h1 HMa HMb HSb
  go_enter Tryz.func25, Tryz.ntmps25
  go_wp2_with fail
  refine HSa.out.mono ?_
  rintro e w1 ⟨va, rfl, hva, hb1⟩
  have HB1 := Sd.mk hb1
  clear hva hb1 HSa
  go_wp2
  go_ret2
  exact ⟨.slice none 0 0, rfl, Kd.N_nil _ _ _ _ _, HB1.out⟩
/-- What a frame's function answers: a row and an error. -/
def Fram (s : List Ser) (e0 : Int) (w : World) (e : Ending) (w' : World) : Prop := ∃ (A' : Option Addr) (c' : Nat), e = .returned (.tuple #[.slice A' s.length c', .int .i64 e0]) ∧ Kd.C k37 w' A' s.length s ∧ s.length ≤ c' ∧ Below w.heap.size w w'
theorem Fram.of {s : List Ser} {e0 : Int} {w : World} {f : Nat} {args : Array Value} {r : List Ser × Int} (h : Calls Tryz.prog f args w fun e w' => ∃ v : Value, e = .returned (.tuple #[v, .int .i64 r.2]) ∧ Kd.N k37 37 w' w.heap.size (fun _ => True) v r.1 ∧ Below w.heap.size w w') (hs : r = (s, e0)) : Calls Tryz.prog f args w (Fram s e0 w) := by
 subst hs
 refine h.mono ?_
 rintro e w' ⟨v, rfl, hN, hb⟩
 obtain ⟨A', c', rfl, h1, h2⟩ := Kd.N_reads hN
 exact ⟨A', c', rfl, h2, h1, hb⟩
theorem nil_ok : SersOk [] := ⟨by decide, fun x hx => by cases hx⟩
theorem map_ok (op : ByteArray) (l : List Ser) : SersOk (vMap op l).1 := by
 have h := sers_ok' l
 unfold vMap
 split
 ·split
  ·refine ⟨by rw [List.length_map]; exact h.1, fun x hx => ?_⟩
   obtain ⟨y, hy, rfl⟩ := List.mem_map.1 hx
   exact h.2 y hy
  ·exact nil_ok
 ·exact nil_ok
theorem join_ok (op : ByteArray) (a b : List Ser) : SersOk (vJoin op a b).1 := by
 unfold vJoin
 split
 ·split
  ·split
   ·exact sers_ok' _
   ·exact nil_ok
  ·exact nil_ok
 ·exact nil_ok
theorem scal2_calls (v1 v2 : Int) (w : World) : Calls Tryz.prog 20 #[.agg #[.int .i64 v1, .int .i64 v2]] w fun e w' => ∃ (A' : Option Addr) (c' : Nat), e = .returned (.slice A' 1 c') ∧ Kd.C k37 w' A' 1 [scal (v1, v2)] ∧ 1 ≤ c' ∧ Below w.heap.size w w' := scal_calls (v1, v2) w
theorem rscal_calls (v1 v2 : Int) (w : World) (A7 : Option Addr) (h7 : Kd.C k37 w A7 1 [scal (v1, v2)]) : Calls Tryz.prog 26 #[.agg #[.int .i64 v1, .int .i64 v2]] w fun e w' => ∃ (A' : Option Addr) (c' : Nat), e = .returned (.slice A' 1 c') ∧ Kd.C k37 w' A' 1 [scal (v1, v2)] ∧ 1 ≤ c' ∧ Kd.C k37 w' A7 1 [scal (v1, v2)] ∧ Below w.heap.size w w' := by
 refine (r10_Scalar.calls v1 v2 [scal (v1, v2)] w rfl).mono ?_
 rintro e w' ⟨x, rfl, hs, hb⟩
 obtain ⟨A', c', rfl, h1, h2⟩ := Kd.N_reads (Kd.S_N hs)
 exact ⟨A', c', rfl, h2, h1, Kd.C_below h7 hb, hb⟩
theorem same_scal (v : V) (A B : Option Addr) (c d : Nat) (W : World) (hA : Kd.C k37 W A 1 [scal v]) (hc : 1 ≤ c) (hB : Kd.C k37 W B 1 [scal v]) (hd : 1 ≤ d) : Calls Tryz.prog 16 #[.slice A 1 c, .slice B 1 d] W fun e w' => e = .returned (.bool true) ∧ Below W.heap.size W w' := same_calls A B c d [scal v] (scal_ok v) W hA hc hB hd
/-- What stands in the law: rows that are read, and the value's box. -/
def JnS (w : World) (vb : Nat) (v1 v2 : Int) (L : List (Option Addr × List Ser)) (w1 : World) : Prop := w1.cell? ⟨vb, 0, none⟩ = some (.int .i64 v1) ∧ w1.cell? ⟨vb, 1, none⟩ = some (.int .i64 v2) ∧ Sd (Below w.heap.size w w1 ∧ ∀ x ∈ L, Kd.C k37 w1 x.1 x.2.length x.2)
section
variable {w : World} {vb : Nat} {v1 v2 : Int} {L : List (Option Addr × List Ser)} {W W2 : World}
theorem JnS.below (h : JnS w vb v1 v2 L W) (hb : Below W.heap.size W W2) : JnS w vb v1 v2 L W2 :=
 ⟨pw_cell_below hb h.1, pw_cell_below hb h.2.1, ⟨h.2.2.out.1.trans (hb.mono h.2.2.out.1.size), fun x hx => Kd.C_below (h.2.2.out.2 x hx) hb⟩⟩
theorem JnS.drew (h : JnS w vb v1 v2 L W) : JnS w vb v1 v2 L W.drew := h.below (Below.refl _ _).drew
theorem JnS.alloc (h : JnS w vb v1 v2 L W) (o : Obj) : JnS w vb v1 v2 L (W.alloc o) := h.below (below1 W o)
theorem JnS.push (h : JnS w vb v1 v2 L W) (hb : Below W.heap.size W W2) {A : Option Addr} {s : List Ser} (hC : Kd.C k37 W2 A s.length s) : JnS w vb v1 v2 ((A, s) :: L) W2 :=
 ⟨pw_cell_below hb h.1, pw_cell_below hb h.2.1, ⟨h.2.2.out.1.trans (hb.mono h.2.2.out.1.size), fun x hx => by
  rcases List.mem_cons.1 hx with rfl | hx
  ·exact hC
  ·exact Kd.C_below (h.2.2.out.2 x hx) hb⟩⟩
theorem JnS.same (h : JnS w vb v1 v2 L W) {A B : Option Addr} {s : List Ser} {c d : Nat} (hA : (A, s) ∈ L) (hB : (B, s) ∈ L) (hs : SersOk s) (hc : s.length ≤ c) (hd : s.length ≤ d) : Calls Tryz.prog 16 #[.slice A s.length c, .slice B s.length d] W fun e w' => e = .returned (.bool true) ∧ JnS w vb v1 v2 L w' :=
 (same_calls A B c d s hs W (h.2.2.out.2 _ hA) hc (h.2.2.out.2 _ hB) hd).mono fun e w' ⟨he, hb⟩ => ⟨he, h.below hb⟩
end
theorem sjoins_calls (op : ByteArray) (A B : Option Addr) (c d : Nat) (l m : List Ser) (v1 v2 : Int) (hl : SersOk l) (hm : SersOk m) (w : World) (hrA : Kd.C k37 w A l.length l) (hcA : l.length ≤ c) (hrB : Kd.C k37 w B m.length m) (hcB : m.length ≤ d) :
  Calls Tryz.prog 8 #[.string op, .slice A l.length c, .slice B m.length d, .agg #[.int .i64 v1, .int .i64 v2]] w fun e w' => e = .returned (.bool true) ∧ Below w.heap.size w w' := by
 have mixed : Tryz.prog.follows .mixedOrders = true := by kernel_rfl
 obtain ⟨sa, hsa, _⟩ := small_ev l hl
 obtain ⟨ka, hka⟩ := hsa.rounds
 obtain ⟨sb, hsb, _⟩ := small_ev m hm
 obtain ⟨kb, hkb⟩ := hsb.rounds
 have HA := Sd.mk hrA
 have HB := Sd.mk hrB
 have hba := below1 w (.cells #[.int .i64 v1, .int .i64 v2] 25)
 have HSA := Sd.mk (fun (w1 : World) (h : Below w.heap.size w w1) => (l10_small.calls ka A c l sa w1 (Kd.C_below HA.out h) hcA hka).mono (fun e w' ⟨he, hw⟩ => (⟨he, by obtain ⟨n, rfl⟩ := hw; exact pbd (Below.refl _ _) n⟩ : e = Ending.returned (.bool sa) ∧ Below w1.heap.size w1 w')))
 have HSB := Sd.mk (fun (w1 : World) (h : Below w.heap.size w w1) => (l10_small.calls kb B d m sb w1 (Kd.C_below HB.out h) hcB hkb).mono (fun e w' ⟨he, hw⟩ => (⟨he, by obtain ⟨n, rfl⟩ := hw; exact pbd (Below.refl _ _) n⟩ : e = Ending.returned (.bool sb) ∧ Below w1.heap.size w1 w')))
 have HB0 := Sd.mk hba
 have HV0 := Sd.mk (blk_new w (.cells #[.int .i64 v1, .int .i64 v2] 25))
 have J0 : JnS w w.heap.size v1 v2 [(B, m), (A, l)] (w.alloc (.cells #[.int .i64 v1, .int .i64 v2] 25)) := ⟨blk_cell HV0.out 0, blk_cell HV0.out 1, ⟨⟨hba, fun x hx => by
  simp only [List.mem_cons, List.not_mem_nil, or_false] at hx
  rcases hx with rfl | rfl
  ·exact Kd.C_below hrB hba
  ·exact Kd.C_below hrA hba⟩⟩⟩
 obtain ⟨vb, hvb⟩ : ∃ L, w.heap.size = L := ⟨_, rfl⟩
 have HJ0 := Sd.mk J0
 rw [hvb] at HJ0
 clear hsa hsb hka hkb hrA hrB hba HV0 J0
 cases sa with
 | false =>
  go_enter Tryz.func8, Tryz.ntmps8
  go_wp2_with fail
  refine (HSA.out _ HB0.out).mono ?_
  rintro e w1 ⟨rfl, hb1⟩
  have HB1 := Sd.mk (HB0.out.trans (hb1.mono HB0.out.size))
  go_wp2_with fail
  refine (l10_live.calls true _ rfl).mono ?_
  rintro e w2 ⟨rfl, hb2⟩
  have HE := Sd.mk (HB1.out.trans (hb2.mono HB1.out.size))
  clear hb2
  go_wp2
  go_ret
  exact ⟨rfl, HE.out⟩
 | true =>
  cases sb with
  | false =>
   go_enter Tryz.func8, Tryz.ntmps8
   go_wp2_with fail
   refine (HSA.out _ HB0.out).mono ?_
   rintro e w1 ⟨rfl, hb1⟩
   have HB1 := Sd.mk (HB0.out.trans (hb1.mono HB0.out.size))
   go_wp2_with fail
   refine (HSB.out _ HB1.out).mono ?_
   rintro e w2 ⟨rfl, hb2⟩
   have HB2 := Sd.mk (HB1.out.trans (hb2.mono HB1.out.size))
   go_wp2_with fail
   refine (l10_live.calls true _ rfl).mono ?_
   rintro e w3 ⟨rfl, hb3⟩
   have HE := Sd.mk (HB2.out.trans (hb3.mono HB2.out.size))
   clear hb3
   go_wp2
   go_ret
   exact ⟨rfl, HE.out⟩
  | true =>
   by_cases hop : 1000 < op.size
   ·have d1 : decide (1000 < op.size) = true := decide_eq_true hop
    have d2 : decide (1000 < (op.size : Int)) = true := decide_eq_true (by omega)
    clear hop
    go_enter Tryz.func8, Tryz.ntmps8
    go_wp2_with fail
    refine (HSA.out _ HB0.out).mono ?_
    rintro e w1 ⟨rfl, hb1⟩
    have HB1 := Sd.mk (HB0.out.trans (hb1.mono HB0.out.size))
    go_wp2_with fail
    refine (HSB.out _ HB1.out).mono ?_
    rintro e w2 ⟨rfl, hb2⟩
    have HB2 := Sd.mk (HB1.out.trans (hb2.mono HB1.out.size))
    go_wp2_with fail
    refine (l10_live.calls true _ rfl).mono ?_
    rintro e w3 ⟨rfl, hb3⟩
    have HE := Sd.mk (HB2.out.trans (hb3.mono HB2.out.size))
    clear hb3
    go_wp2
    go_ret
    exact ⟨rfl, HE.out⟩
   ·have d1 : decide (1000 < op.size) = false := decide_eq_false hop
    have d2 : decide (1000 < (op.size : Int)) = false := decide_eq_false (by omega)
    clear hop
    rcases hvs : vSort l with ⟨s, e0⟩
    rcases hvm : vMap op l with ⟨t, e1⟩
    rcases hvj : vJoin op l m with ⟨r, e2⟩
    have HVS := Sd.mk hvs
    have HVM := Sd.mk hvm
    have HVJ := Sd.mk hvj
    have HOs := Sd.mk (show SersOk s by have := sers_ok' l; rwa [hvs] at this)
    have HOt := Sd.mk (show SersOk t by have := map_ok op l; rwa [hvm] at this)
    have HOr := Sd.mk (show SersOk r by have := join_ok op l m; rwa [hvj] at this)
    clear hvs hvm hvj
    go_enter Tryz.func8, Tryz.ntmps8
    go_wp2_with fail
    refine (HSA.out _ HB0.out).mono ?_
    rintro e w1 ⟨rfl, hb1⟩
    have HB1 := Sd.mk (HB0.out.trans (hb1.mono HB0.out.size))
    have K1 := Sd.mk (HJ0.out.below hb1)
    clear hb1
    clear HB0 HJ0
    go_wp2_with fail
    refine (HSB.out _ HB1.out).mono ?_
    rintro e w2 ⟨rfl, hb2⟩
    have K2 := Sd.mk (K1.out.below hb2)
    clear hb2
    clear HB1 K1 HSA HSB
    go_wp2_with fail
    refine (own_calls A c l hl _ (K2.out.2.2.out.2 (A, l) (by simp)) hcA).mono ?_
    rintro e w3 ⟨P1, p1, rfl, _, hC, _, hb⟩
    have K3 := Sd.mk (K2.out.push hb hC)
    clear hC hb K2
    go_wp2_with fail
    refine (sort_calls' P1 p1 l hl _ (K3.out.2.2.out.2 (P1, l) (by simp)) HVS.out).mono ?_
    rintro e w4 ⟨A1, c1, rfl, hC, hc1, hb⟩
    have K4 := Sd.mk (K3.out.push hb hC)
    clear hC hb K3
    go_wp2_with fail
    refine (Fram.of (rsort_calls A c l hl _ (K4.out.2.2.out.2 (A, l) (by simp))) HVS.out).mono ?_
    rintro e w5 ⟨A2, c2, rfl, hC, hc2, hb⟩
    have K5 := Sd.mk (K4.out.push hb hC)
    clear hC hb K4
    go_wp2_with fail
    refine (own_calls A c l hl _ (K5.out.2.2.out.2 (A, l) (by simp)) hcA).mono ?_
    rintro e w6 ⟨P2, p2, rfl, _, hC, _, hb⟩
    have K6 := Sd.mk (K5.out.push hb hC)
    clear hC hb K5
    go_wp2_with fail
    refine (map_calls' op P2 p2 l hl _ (K6.out.2.2.out.2 (P2, l) (by simp)) HVM.out).mono ?_
    rintro e w7 ⟨A3, c3, rfl, hC, hc3, hb⟩
    have K7 := Sd.mk (K6.out.push hb hC)
    clear hC hb K6
    go_wp2_with fail
    refine (Fram.of (rmap_calls op A c l hl _ (K7.out.2.2.out.2 (A, l) (by simp))) HVM.out).mono ?_
    rintro e w8 ⟨A4, c4, rfl, hC, hc4, hb⟩
    have K8 := Sd.mk (K7.out.push hb hC)
    clear hC hb K7
    go_wp2_with fail
    refine (own_calls A c l hl _ (K8.out.2.2.out.2 (A, l) (by simp)) hcA).mono ?_
    rintro e w9 ⟨P3, p3, rfl, _, hC, _, hb⟩
    have K9 := Sd.mk (K8.out.push hb hC)
    clear hC hb K8
    go_wp2_with fail
    refine (own_calls B d m hm _ (K9.out.2.2.out.2 (B, m) (by simp)) hcB).mono ?_
    rintro e w10 ⟨P4, p4, rfl, _, hC, _, hb⟩
    have K10 := Sd.mk (K9.out.push hb hC)
    clear hC hb K9
    go_wp2_with fail
    refine (join_calls' op P3 P4 p3 p4 l.length m.length l m hl hm _ (K10.out.2.2.out.2 (P3, l) (by simp)) (K10.out.2.2.out.2 (P4, m) (by simp)) rfl rfl HVJ.out).mono ?_
    rintro e w11 ⟨A5, c5, rfl, hC, hc5, hb⟩
    have K11 := Sd.mk (K10.out.push hb hC)
    clear hC hb K10
    go_wp2_with fail
    refine (Fram.of (rjoin_calls op A B c d l m hl hm _ (K11.out.2.2.out.2 (A, l) (by simp)) (K11.out.2.2.out.2 (B, m) (by simp))) HVJ.out).mono ?_
    rintro e w12 ⟨A6, c6, rfl, hC, hc6, hb⟩
    have S1 : JnS w vb v1 v2 [(A6, r), (A5, r), (A4, t), (A3, t), (A2, s), (A1, s)] w12 := by
     have K := K11.out.push hb hC
     refine ⟨K.1, K.2.1, ⟨⟨K.2.2.out.1, fun x hx => K.2.2.out.2 x ?_⟩⟩⟩
     simp only [List.mem_cons, List.not_mem_nil, or_false] at hx
     rcases hx with rfl | rfl | rfl | rfl | rfl | rfl <;> simp
    clear hC hb K11 HVS HVM HVJ
    have z := S1
    obtain ⟨z0, z1, _⟩ := z
    go_wp2_with fail
    go_region_held3 (fun w' => w'.cell? ⟨vb, 0, none⟩ = some (.int .i64 v1) ∧ w'.cell? ⟨vb, 1, none⟩ = some (.int .i64 v2) ∧ Sd (Below w.heap.size w w' ∧ ∀ x ∈ [(A6, r), (A5, r), (A4, t), (A3, t), (A2, s), (A1, s)], Kd.C k37 w' x.1 x.2.length x.2)) (first | exact hS | exact JnS.drew (by assumption) | exact JnS.alloc (by assumption) _ | go_keep)
     (first
      | (go_at_call 16; (with_reducible refine (JnS.same (A := A1) (B := A2) (s := s) (by first | assumption | exact JnS.drew (by assumption) : JnS w vb v1 v2 [(A6, r), (A5, r), (A4, t), (A3, t), (A2, s), (A1, s)] _) (by simp) (by simp) HOs.out hc1 hc2).mono ?_); rintro e w2 ⟨rfl, hS⟩)
      | (go_at_call 16; (with_reducible refine (JnS.same (A := A3) (B := A4) (s := t) (by first | assumption | exact JnS.drew (by assumption) : JnS w vb v1 v2 [(A6, r), (A5, r), (A4, t), (A3, t), (A2, s), (A1, s)] _) (by simp) (by simp) HOt.out hc3 hc4).mono ?_); rintro e w2 ⟨rfl, hS⟩)
      | (go_at_call 16; (with_reducible refine (JnS.same (A := A5) (B := A6) (s := r) (by first | assumption | exact JnS.drew (by assumption) : JnS w vb v1 v2 [(A6, r), (A5, r), (A4, t), (A3, t), (A2, s), (A1, s)] _) (by simp) (by simp) HOr.out hc5 hc6).mono ?_); rintro e w2 ⟨rfl, hS⟩)
      | (go_at_call 12; (with_reducible refine (num_calls10 _ _).mono ?_); rintro e w2 ⟨rfl, hb1⟩; have hS : JnS w vb v1 v2 [(A6, r), (A5, r), (A4, t), (A3, t), (A2, s), (A1, s)] _ := JnS.below (by assumption) hb1; clear hb1)
      | (go_at_call 20; (with_reducible refine (scal2_calls v1 v2 _).mono ?_); rintro e w2 ⟨A7, c7, rfl, hC7, hc7, hb1⟩; have hS : JnS w vb v1 v2 [(A6, r), (A5, r), (A4, t), (A3, t), (A2, s), (A1, s)] _ := JnS.below (by assumption) hb1; clear hb1)
      | (go_at_call 26; (with_reducible refine (rscal_calls v1 v2 _ A7 (Kd.C_below hC7 (by repeat (first | exact Below.refl _ _ | apply bd1)))).mono ?_); rintro e w2 ⟨A8, c8, rfl, hC8, hc8, hD7, hb1⟩; have hS : JnS w vb v1 v2 [(A6, r), (A5, r), (A4, t), (A3, t), (A2, s), (A1, s)] _ := JnS.below (by assumption) hb1; clear hb1)
      | (go_at_call 16; (with_reducible refine (same_scal (v1, v2) A7 A8 c7 c8 _ (Kd.C_below hD7 (by repeat (first | exact Below.refl _ _ | apply bd1))) hc7 (Kd.C_below hC8 (by repeat (first | exact Below.refl _ _ | apply bd1))) hc8).mono ?_); rintro e w2 ⟨rfl, hb1⟩; have hS : JnS w vb v1 v2 [(A6, r), (A5, r), (A4, t), (A3, t), (A2, s), (A1, s)] _ := JnS.below (by assumption) hb1; clear hb1)
      | (go_at_call 9; (with_reducible refine (l10_live.calls true _ rfl).mono ?_); rintro e w2 ⟨rfl, hb1⟩; have hS : JnS w vb v1 v2 [(A6, r), (A5, r), (A4, t), (A3, t), (A2, s), (A1, s)] _ := JnS.below (by assumption) hb1; clear hb1))
    go_wp2
    go_ret
    exact ⟨by simp, (show JnS w vb v1 v2 [(A6, r), (A5, r), (A4, t), (A3, t), (A2, s), (A1, s)] _ by assumption).2.2.out.1⟩
theorem rowJoins.calls (op : ByteArray) (A B : Option Addr) (c d : Nat) (l m : List Ser) (v1 v2 : Int) (hl : SersOk l) (hm : SersOk m) (w : World) (hr : Kd.C k37 w A l.length l) (hc : l.length ≤ c) (hr2 : Kd.C k37 w B m.length m) (hc2 : m.length ≤ d) :
  Calls Tryz.prog 8 #[.string op, .slice A l.length c, .slice B m.length d, .agg #[.int .i64 v1, .int .i64 v2]] w fun e w' => e = .returned (.bool true) ∧ Below w.heap.size w w' := sjoins_calls op A B c d l m v1 v2 hl hm w hr hc hr2 hc2
end Go.Proofs.YtcmiehddjgfjaaaGreat.A
