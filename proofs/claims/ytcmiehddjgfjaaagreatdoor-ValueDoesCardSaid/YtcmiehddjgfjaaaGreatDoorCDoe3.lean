/- A part of the proof of LawValueDoes: contracts and plain laws, put together by a program of this session. -/
import Derived.Test.YtcmiehddjgfjaaaGreatDoorCDoe2
import Derived.Deep.QuietTactic
import Derived.Deep.RegionHeld3
namespace Go.Proofs.YtcmiehddjgfjaaaGreatDoor.A
open Go.RowKit Go.Proofs.YtcmiehddjgfjaaaGreatDoorW.PrintWords Go.Proofs.YtcmiehddjgfjaaaGreatDoorW.PrintLast Go.Proofs.YtcmiehddjgfjaaaGreatDoorW.PrintMore Go.Proofs.YtcmiehddjgfjaaaGreatDoor.H Go.Sort
set_option linter.unusedVariables false
set_option linter.unusedSimpArgs false
theorem nan_calls (w : World) : Calls Tryz.prog 25 #[] w fun e w' => e = .returned (vv (3, 0)) ∧ Below w.heap.size w w' := v_NaN.calls 3 0 w rfl
theorem plus_calls (w : World) : Calls Tryz.prog 27 #[] w fun e w' => e = .returned (vv (4, 0)) ∧ Below w.heap.size w w' := v_Plus.calls 4 0 w rfl
theorem minus_calls (w : World) : Calls Tryz.prog 29 #[] w fun e w' => e = .returned (vv (5, 0)) ∧ Below w.heap.size w w' := v_Minus.calls 5 0 w rfl
theorem row_below {w w' : World} (hb : Below w.heap.size w w') {b : Nat} {o : Obj} (h : w.heap[b]? = some o) : w'.heap[b]? = some o := by
  have hlt : b < w.heap.size := by
    rcases Nat.lt_or_ge b w.heap.size with h' | h'
    · exact h'
    · rw [Array.getElem?_eq_none h'] at h; cases h
  rw [hb.block b hlt]; exact h
/-- What stands through value.Parse: the result's row, the row of the four, what there was. -/
structure PKeep (w : World) (R B : Nat) (w1 : World) : Prop where
  b : Below w.heap.size w w1
  m : w1.heap[R]? = some (.cells #[.int .i64 0, .int .i64 0] 25 (0, 0))
  v : w1.heap[B]? = some (.cells #[.int .i64 2, .int .i64 0, .int .i64 3, .int .i64 0, .int .i64 4, .int .i64 0, .int .i64 5, .int .i64 0] 25 (0, 0))
theorem PKeep.below {w w1 w2 : World} {R B : Nat} (h : PKeep w R B w1) (hb : Below w1.heap.size w1 w2) : PKeep w R B w2 :=
  ⟨h.b.trans (hb.mono h.b.size), row_below hb h.m, row_below hb h.v⟩
theorem PKeep.alloc {w w1 : World} {R B : Nat} (h : PKeep w R B w1) (o : Obj) : PKeep w R B (w1.alloc o) := h.below (bal (Below.refl _ _) o)
theorem PKeep.drewN {w w1 : World} {R B : Nat} (h : PKeep w R B w1) (n : Nat) : PKeep w R B (w1.drewN n) := h.below (pbd (Below.refl _ _) n)
theorem PKeep.m0 {w w1 : World} {R B : Nat} (h : PKeep w R B w1) : w1.cell? ⟨R, 0, none⟩ = some (.int .i64 0) := (cell_of_row _ _ 0 _ _ _ h.m).trans rfl
theorem PKeep.m1 {w w1 : World} {R B : Nat} (h : PKeep w R B w1) : w1.cell? ⟨R, 1, none⟩ = some (.int .i64 0) := (cell_of_row _ _ 1 _ _ _ h.m).trans rfl
theorem PKeep.z0 {w w1 : World} {R B : Nat} (h : PKeep w R B w1) : w1.frozen? ⟨R, 0, none⟩ = false := blk_frozen h.m 0
theorem PKeep.z1 {w w1 : World} {R B : Nat} (h : PKeep w R B w1) : w1.frozen? ⟨R, 1, none⟩ = false := blk_frozen h.m 1
theorem PKeep.put {w w1 : World} {R B : Nat} (h : PKeep w R B w1) (p : Addr) (u : Value) (h0 : w.heap.size ≤ p.block) (hR : R ≠ p.block) (hB : B ≠ p.block) : PKeep w R B (w1.setCell p u) :=
  ⟨h.b.setCell h0 u, (Below.heap_setCell _ _ _ _ hR).trans h.m, (Below.heap_setCell _ _ _ _ hB).trans h.v⟩
theorem row_lt {w : World} {b : Nat} {o : Obj} (h : w.heap[b]? = some o) : b < w.heap.size := by
  rcases Nat.lt_or_ge b w.heap.size with h' | h'
  · exact h'
  · rw [Array.getElem?_eq_none h'] at h; cases h
theorem num_calls (n : Int) (w : World) : Calls Tryz.prog 19 #[.int .i64 n] w fun e w' => e = .returned (.agg #[.int .i64 (vNum n).1, .int .i64 (vNum n).2]) ∧ Below w.heap.size w w' := v_Num.calls n _ _ w (num_is n)
theorem num_zero (w : World) : Calls Tryz.prog 19 #[.int .i64 0] w fun e w' => e = .returned (.agg #[.int .i64 1, .int .i64 0]) ∧ Below w.heap.size w w' := num_calls 0 w
theorem blk_new0 (w : World) (a b : Int) : (w.alloc (.cells #[.int .i64 a, .int .i64 b] 25)).cell? ⟨w.heap.size, 0, none⟩ = some (.int .i64 a) := (cell_of_row _ _ 0 _ _ _ (blk_new w _)).trans rfl
theorem blk_new1 (w : World) (a b : Int) : (w.alloc (.cells #[.int .i64 a, .int .i64 b] 25)).cell? ⟨w.heap.size, 1, none⟩ = some (.int .i64 b) := (cell_of_row _ _ 1 _ _ _ (blk_new w _)).trans rfl
/-- The row of 'v' between the second Num and what is written into it. -/
structure Slot (w : World) (R B : Nat) (w1 w2 : World) (x1 x2 v1 v2 : Int) : Prop where
  n0 : w2.cell? ⟨w1.heap.size, 0, none⟩ = some (.int .i64 x1)
  n1 : w2.cell? ⟨w1.heap.size, 1, none⟩ = some (.int .i64 x2)
  f0 : w2.frozen? ⟨w1.heap.size, 0, none⟩ = false
  f1 : w2.frozen? ⟨w1.heap.size, 1, none⟩ = false
  k : PKeep w R B ((w2.setCell ⟨w1.heap.size, 0, none⟩ (.int .i64 v1)).setCell ⟨w1.heap.size, 1, none⟩ (.int .i64 v2))
  r : ((w2.setCell ⟨w1.heap.size, 0, none⟩ (.int .i64 v1)).setCell ⟨w1.heap.size, 1, none⟩ (.int .i64 v2)).heap[w1.heap.size]? = some (.cells #[.int .i64 v1, .int .i64 v2] 25 (0, 0))
  d : R ≠ w1.heap.size
theorem slot_of {w w1 w2 : World} {R B : Nat} (K : PKeep w R B w1) (x1 x2 v1 v2 : Int) (hb : Below (w1.alloc (.cells #[.int .i64 x1, .int .i64 x2] 25)).heap.size (w1.alloc (.cells #[.int .i64 x1, .int .i64 x2] 25)) w2) : Slot w R B w1 w2 x1 x2 v1 v2 := by
  have r := row_below hb (blk_new w1 _)
  have hR : R ≠ w1.heap.size := by have := row_lt K.m; omega
  have hB : B ≠ w1.heap.size := by have := row_lt K.v; omega
  exact ⟨(blk_cell r 0).trans rfl, (blk_cell r 1).trans rfl, blk_frozen r 0, blk_frozen r 1, (((K.alloc _).below hb).put _ _ K.b.size hR hB).put _ _ K.b.size hR hB, blk_put (blk_put r 0 _ rfl) 1 _ rfl, hR⟩
/-- The names of what is beyond numbers are passed. -/
def Past (s : ByteArray) : Nat → Prop
  | 0 => True
  | 1 => (s.toList == [110, 117, 108, 108]) = false
  | 2 => (s.toList == [110, 117, 108, 108]) = false ∧ (s.toList == [78, 97, 78]) = false
  | 3 => (s.toList == [110, 117, 108, 108]) = false ∧ (s.toList == [78, 97, 78]) = false ∧ (s.toList == [43, 73, 110, 102]) = false
  | _ => (s.toList == [110, 117, 108, 108]) = false ∧ (s.toList == [78, 97, 78]) = false ∧ (s.toList == [43, 73, 110, 102]) = false ∧ (s.toList == [45, 73, 110, 102]) = false
/-- A text that is none of the four. -/
def pTail (l : List UInt8) : V × Int :=
  let c := Lib.cut (Lib.trimPrefix l [45]) [46]
  if c.2.1.length ≤ 3 then if c.1.length ≤ 13 then
    match pu 0 (c.1 ++ c.2.1 ++ List.replicate (3 - c.2.1.length) 48) with
    | some n =>
      let v := vNum (if Lib.hasPrefix l [45] = true then -(n : Int) else (n : Int))
      if v.1 = 1 then if vPrint v = l then (v, 0) else ((0, 0), 80) else ((0, 0), 80)
    | none => ((0, 0), 80)
  else ((0, 0), 80) else ((0, 0), 80)
/-- Every text as a value. -/
def vParse (l : List UInt8) : V × Int :=
  if l = [110, 117, 108, 108] then ((2, 0), 0) else if l = [78, 97, 78] then ((3, 0), 0) else if l = [43, 73, 110, 102] then ((4, 0), 0) else if l = [45, 73, 110, 102] then ((5, 0), 0) else pTail l
theorem pu_lt : ∀ (l : List UInt8) (acc n : Nat), pu acc l = some n → n + 1 ≤ (acc + 1) * 10 ^ l.length
  | [], acc, n, h => by
    injection h with h
    subst h
    simp
  | c :: r, acc, n, h => by
    rw [pu] at h
    split at h
    · have ih := pu_lt r _ n h
      rw [List.length_cons, Nat.pow_succ, Nat.mul_comm (10 ^ r.length) 10, ← Nat.mul_assoc]
      exact Nat.le_trans ih (Nat.mul_le_mul_right _ (by omega))
    · cases h
theorem sb_toList (l : List UInt8) : (sb l).toList = l := by rw [Lib.toList_data]
theorem trimPrefix_le (l p : List UInt8) : (Lib.trimPrefix l p).length ≤ l.length := by
  unfold Lib.trimPrefix
  split
  · simp
  · exact Nat.le_refl _
theorem cut_le (l : List UInt8) (p : List UInt8) : (Lib.cut l p).1.length ≤ l.length ∧ (Lib.cut l p).2.1.length ≤ l.length := by
  unfold Lib.cut
  split
  · simp [Nat.min_le_right]
  · simp
theorem sb_size (l : List UInt8) : (sb l).size = l.length := rfl
theorem eq_sb (s : ByteArray) : s = sb s.toList := by
  apply ByteArray.ext
  show s.data = s.toList.toArray
  rw [Lib.toList_data]
set_option maxHeartbeats 4000000 in
set_option maxRecDepth 100000 in
theorem parse_calls (s : ByteArray) (hs : s.size ≤ 20000) (w : World) (G : Glob w) :
    Calls Tryz.prog 31 #[.string s] w fun e w' => e = .returned (.tuple #[vv (vParse s.toList).1, .int .i64 (vParse s.toList).2]) ∧ Below w.heap.size w w' := by
  have hb0 : Below w.heap.size w (w.alloc (.cells #[.int .i64 0, .int .i64 0] 25)) := below_one w _
  have r0 : (w.alloc (.cells #[.int .i64 0, .int .i64 0] 25)).heap[w.heap.size]? = some (.cells #[.int .i64 0, .int .i64 0] 25 (0, 0)) := blk_new w _
  have HB := Sd.mk hb0
  have HR := Sd.mk r0
  have HG := Sd.mk G
  clear G
  have HP2 : ∀ w1, Glob w1 → Calls Tryz.prog 33 #[.agg #[.int .i64 2, .int .i64 0]] w1 fun e w' => e = .returned (.string ⟨#[110, 117, 108, 108]⟩) ∧ Below w1.heap.size w1 w' := fun w1 g => print_calls 2 0 w1 g
  have HP2 := Sd.mk HP2
  have HP3 : ∀ w1, Glob w1 → Calls Tryz.prog 33 #[.agg #[.int .i64 3, .int .i64 0]] w1 fun e w' => e = .returned (.string ⟨#[78, 97, 78]⟩) ∧ Below w1.heap.size w1 w' := fun w1 g => print_calls 3 0 w1 g
  have HP3 := Sd.mk HP3
  have HP4 : ∀ w1, Glob w1 → Calls Tryz.prog 33 #[.agg #[.int .i64 4, .int .i64 0]] w1 fun e w' => e = .returned (.string ⟨#[43, 73, 110, 102]⟩) ∧ Below w1.heap.size w1 w' := fun w1 g => print_calls 4 0 w1 g
  have HP4 := Sd.mk HP4
  have HP5 : ∀ w1, Glob w1 → Calls Tryz.prog 33 #[.agg #[.int .i64 5, .int .i64 0]] w1 fun e w' => e = .returned (.string ⟨#[45, 73, 110, 102]⟩) ∧ Below w1.heap.size w1 w' := fun w1 g => print_calls 5 0 w1 g
  have HP5 := Sd.mk HP5
  go_enter Tryz.func31, Tryz.ntmps31
  go_wp2_with fail
  generalize w.alloc (.cells #[.int .i64 0, .int .i64 0] 25) = W1 at HB HR ⊢
  clear hb0 r0
  go_wp2_with (first
    | (go_at_call 23; refine (null_calls _).mono ?_; rintro e w1 ⟨rfl, hb1⟩; have HR := Sd.mk (row_below hb1 HR.out); have HB := Sd.mk (HB.out.trans (hb1.mono HB.out.size)); clear hb1)
    | (go_at_call 25; refine (nan_calls _).mono ?_; rintro e w1 ⟨rfl, hb1⟩; have HR := Sd.mk (row_below hb1 HR.out); have HB := Sd.mk (HB.out.trans (hb1.mono HB.out.size)); clear hb1)
    | (go_at_call 27; refine (plus_calls _).mono ?_; rintro e w1 ⟨rfl, hb1⟩; have HR := Sd.mk (row_below hb1 HR.out); have HB := Sd.mk (HB.out.trans (hb1.mono HB.out.size)); clear hb1)
    | (go_at_call 29; refine (minus_calls _).mono ?_; rintro e w1 ⟨rfl, hb1⟩; have HR := Sd.mk (row_below hb1 HR.out); have HB := Sd.mk (HB.out.trans (hb1.mono HB.out.size)); clear hb1))
  have HK := Sd.mk (⟨bal HB.out _, row_below (bal (Below.refl _ _) _) HR.out, blk_new w1 _⟩ : PKeep w w.heap.size w1.heap.size (w1.alloc (.cells #[.int .i64 2, .int .i64 0, .int .i64 3, .int .i64 0, .int .i64 4, .int .i64 0, .int .i64 5, .int .i64 0] 25)))
  clear HB HR
  obtain ⟨W2, hW2⟩ : ∃ W2, W2 = w1.alloc (.cells #[.int .i64 2, .int .i64 0, .int .i64 3, .int .i64 0, .int .i64 4, .int .i64 0, .int .i64 5, .int .i64 0] 25) := ⟨_, rfl⟩
  rw [← hW2] at HK ⊢
  clear hW2
  generalize w1.heap.size = B at HK ⊢
  obtain ⟨R, hR⟩ : ∃ R, R = w.heap.size := ⟨_, rfl⟩
  have HX0 : Sd (w.heap.size ≤ R) := ⟨by omega⟩
  have HK : Sd (PKeep w R B W2) := by rw [hR]; exact HK
  rw [← hR]
  clear hR
  go_loopg [20] 4 (fun kq v20 w' => Sd (PKeep w R B w') ∧ ((v20 = .int .i64 0 ∧ Sd (kq = 4 ∧ Past s 0)) ∨ (v20 = .int .i64 1 ∧ Sd (kq = 3 ∧ Past s 1)) ∨ (v20 = .int .i64 2 ∧ Sd (kq = 2 ∧ Past s 2)) ∨ (v20 = .int .i64 3 ∧ Sd (kq = 1 ∧ Past s 3)) ∨ (v20 = .int .i64 4 ∧ Sd (kq = 0 ∧ Past s 4))))
  case atStart => exact ⟨HK, .inl ⟨rfl, ⟨rfl, trivial⟩⟩⟩
  case round =>
    obtain ⟨HK1, hrel⟩ := hrel
    clear HK
    rcases hrel with ⟨rfl, HQ⟩ | ⟨rfl, HQ⟩ | ⟨rfl, HQ⟩ | ⟨rfl, HQ⟩ | ⟨rfl, HQ⟩
    · have c0 := cell_of_row _ _ 0 _ _ _ HK1.out.v
      have c1 := cell_of_row _ _ 1 _ _ _ HK1.out.v
      simp only [List.getElem?_toArray, List.getElem?_cons_zero, List.getElem?_cons_succ] at c0 c1
      by_cases hq : s = ⟨#[110, 117, 108, 108]⟩
      · subst hq
        have HE : Sd (vParse (ByteArray.mk #[110, 117, 108, 108]).toList = ((2, 0), 0)) := ⟨by rw [Lib.toList_data]; simp [vParse]⟩
        clear HQ
        go_wp2_with fail
        refine (HP2.out _ (HG.out.below (HK1.out.alloc _).b)).mono ?_
        rintro e w1 ⟨rfl, hb1⟩
        have n0 := cell_of_row _ _ 0 _ _ _ (blk_new wr (.cells #[.int .i64 2, .int .i64 0] 25))
        have n1 := cell_of_row _ _ 1 _ _ _ (blk_new wr (.cells #[.int .i64 2, .int .i64 0] 25))
        simp only [List.getElem?_toArray, List.getElem?_cons_zero, List.getElem?_cons_succ] at n0 n1
        have n0 := pw_cell_below hb1 n0
        have n1 := pw_cell_below hb1 n1
        have HK := Sd.mk ((HK1.out.alloc _).below hb1)
        clear HK1 c0 c1 hb1
        have m0 := cell_of_row _ _ 0 _ _ _ HK.out.m
        have m1 := cell_of_row _ _ 1 _ _ _ HK.out.m
        simp only [List.getElem?_toArray, List.getElem?_cons_zero, List.getElem?_cons_succ] at m0 m1
        have z0 := blk_frozen HK.out.m 0
        have z1 := blk_frozen HK.out.m 1
        go_wp2
        exact bodyPost_ret (v := .tuple #[vv (2, 0), .int .i64 0]) (by simp [results, Tryz.results31, go_sem, m0, m1]) rfl ⟨by rw [HE.out], (HK.out.b.setCell HX0.out _).setCell HX0.out _⟩
      · have hq' : (s.toList == [110, 117, 108, 108]) = false := by
          rw [beq_eq_false_iff_ne]
          intro h
          exact hq (ByteArray.ext (by rw [← Array.toList_inj, ← Lib.toList_data]; exact h))
        have HX : Sd (Past s 1) := ⟨hq'⟩
        go_wp2_with fail
        refine (HP2.out _ (HG.out.below (HK1.out.alloc _).b)).mono ?_
        rintro e w1 ⟨rfl, hb1⟩
        have HK := Sd.mk ((HK1.out.alloc _).below hb1)
        clear HK1 c0 c1 hb1
        go_wp2
        go_roundg 3
        case measure => have := HQ.out.1; omega
        case rel => exact ⟨HK, .inr (.inl ⟨rfl, ⟨rfl, HX.out⟩⟩)⟩
    · have c0 := cell_of_row _ _ 2 _ _ _ HK1.out.v
      have c1 := cell_of_row _ _ 3 _ _ _ HK1.out.v
      simp only [List.getElem?_toArray, List.getElem?_cons_zero, List.getElem?_cons_succ] at c0 c1
      by_cases hq : s = ⟨#[78, 97, 78]⟩
      · subst hq
        have HE : Sd (vParse (ByteArray.mk #[78, 97, 78]).toList = ((3, 0), 0)) := ⟨by rw [Lib.toList_data]; simp [vParse]⟩
        clear HQ
        go_wp2_with fail
        refine (HP3.out _ (HG.out.below (HK1.out.alloc _).b)).mono ?_
        rintro e w1 ⟨rfl, hb1⟩
        have n0 := cell_of_row _ _ 0 _ _ _ (blk_new wr (.cells #[.int .i64 3, .int .i64 0] 25))
        have n1 := cell_of_row _ _ 1 _ _ _ (blk_new wr (.cells #[.int .i64 3, .int .i64 0] 25))
        simp only [List.getElem?_toArray, List.getElem?_cons_zero, List.getElem?_cons_succ] at n0 n1
        have n0 := pw_cell_below hb1 n0
        have n1 := pw_cell_below hb1 n1
        have HK := Sd.mk ((HK1.out.alloc _).below hb1)
        clear HK1 c0 c1 hb1
        have m0 := cell_of_row _ _ 0 _ _ _ HK.out.m
        have m1 := cell_of_row _ _ 1 _ _ _ HK.out.m
        simp only [List.getElem?_toArray, List.getElem?_cons_zero, List.getElem?_cons_succ] at m0 m1
        have z0 := blk_frozen HK.out.m 0
        have z1 := blk_frozen HK.out.m 1
        go_wp2
        exact bodyPost_ret (v := .tuple #[vv (3, 0), .int .i64 0]) (by simp [results, Tryz.results31, go_sem, m0, m1]) rfl ⟨by rw [HE.out], (HK.out.b.setCell HX0.out _).setCell HX0.out _⟩
      · have hq' : (s.toList == [78, 97, 78]) = false := by
          rw [beq_eq_false_iff_ne]
          intro h
          exact hq (ByteArray.ext (by rw [← Array.toList_inj, ← Lib.toList_data]; exact h))
        have HX : Sd (Past s 2) := ⟨⟨HQ.out.2, hq'⟩⟩
        go_wp2_with fail
        refine (HP3.out _ (HG.out.below (HK1.out.alloc _).b)).mono ?_
        rintro e w1 ⟨rfl, hb1⟩
        have HK := Sd.mk ((HK1.out.alloc _).below hb1)
        clear HK1 c0 c1 hb1
        go_wp2
        go_roundg 2
        case measure => have := HQ.out.1; omega
        case rel => exact ⟨HK, .inr (.inr (.inl ⟨rfl, ⟨rfl, HX.out⟩⟩))⟩
    · have c0 := cell_of_row _ _ 4 _ _ _ HK1.out.v
      have c1 := cell_of_row _ _ 5 _ _ _ HK1.out.v
      simp only [List.getElem?_toArray, List.getElem?_cons_zero, List.getElem?_cons_succ] at c0 c1
      by_cases hq : s = ⟨#[43, 73, 110, 102]⟩
      · subst hq
        have HE : Sd (vParse (ByteArray.mk #[43, 73, 110, 102]).toList = ((4, 0), 0)) := ⟨by rw [Lib.toList_data]; simp [vParse]⟩
        clear HQ
        go_wp2_with fail
        refine (HP4.out _ (HG.out.below (HK1.out.alloc _).b)).mono ?_
        rintro e w1 ⟨rfl, hb1⟩
        have n0 := cell_of_row _ _ 0 _ _ _ (blk_new wr (.cells #[.int .i64 4, .int .i64 0] 25))
        have n1 := cell_of_row _ _ 1 _ _ _ (blk_new wr (.cells #[.int .i64 4, .int .i64 0] 25))
        simp only [List.getElem?_toArray, List.getElem?_cons_zero, List.getElem?_cons_succ] at n0 n1
        have n0 := pw_cell_below hb1 n0
        have n1 := pw_cell_below hb1 n1
        have HK := Sd.mk ((HK1.out.alloc _).below hb1)
        clear HK1 c0 c1 hb1
        have m0 := cell_of_row _ _ 0 _ _ _ HK.out.m
        have m1 := cell_of_row _ _ 1 _ _ _ HK.out.m
        simp only [List.getElem?_toArray, List.getElem?_cons_zero, List.getElem?_cons_succ] at m0 m1
        have z0 := blk_frozen HK.out.m 0
        have z1 := blk_frozen HK.out.m 1
        go_wp2
        exact bodyPost_ret (v := .tuple #[vv (4, 0), .int .i64 0]) (by simp [results, Tryz.results31, go_sem, m0, m1]) rfl ⟨by rw [HE.out], (HK.out.b.setCell HX0.out _).setCell HX0.out _⟩
      · have hq' : (s.toList == [43, 73, 110, 102]) = false := by
          rw [beq_eq_false_iff_ne]
          intro h
          exact hq (ByteArray.ext (by rw [← Array.toList_inj, ← Lib.toList_data]; exact h))
        have HX : Sd (Past s 3) := ⟨⟨HQ.out.2.1, HQ.out.2.2, hq'⟩⟩
        go_wp2_with fail
        refine (HP4.out _ (HG.out.below (HK1.out.alloc _).b)).mono ?_
        rintro e w1 ⟨rfl, hb1⟩
        have HK := Sd.mk ((HK1.out.alloc _).below hb1)
        clear HK1 c0 c1 hb1
        go_wp2
        go_roundg 1
        case measure => have := HQ.out.1; omega
        case rel => exact ⟨HK, .inr (.inr (.inr (.inl ⟨rfl, ⟨rfl, HX.out⟩⟩)))⟩
    · have c0 := cell_of_row _ _ 6 _ _ _ HK1.out.v
      have c1 := cell_of_row _ _ 7 _ _ _ HK1.out.v
      simp only [List.getElem?_toArray, List.getElem?_cons_zero, List.getElem?_cons_succ] at c0 c1
      by_cases hq : s = ⟨#[45, 73, 110, 102]⟩
      · subst hq
        have HE : Sd (vParse (ByteArray.mk #[45, 73, 110, 102]).toList = ((5, 0), 0)) := ⟨by rw [Lib.toList_data]; simp [vParse]⟩
        clear HQ
        go_wp2_with fail
        refine (HP5.out _ (HG.out.below (HK1.out.alloc _).b)).mono ?_
        rintro e w1 ⟨rfl, hb1⟩
        have n0 := cell_of_row _ _ 0 _ _ _ (blk_new wr (.cells #[.int .i64 5, .int .i64 0] 25))
        have n1 := cell_of_row _ _ 1 _ _ _ (blk_new wr (.cells #[.int .i64 5, .int .i64 0] 25))
        simp only [List.getElem?_toArray, List.getElem?_cons_zero, List.getElem?_cons_succ] at n0 n1
        have n0 := pw_cell_below hb1 n0
        have n1 := pw_cell_below hb1 n1
        have HK := Sd.mk ((HK1.out.alloc _).below hb1)
        clear HK1 c0 c1 hb1
        have m0 := cell_of_row _ _ 0 _ _ _ HK.out.m
        have m1 := cell_of_row _ _ 1 _ _ _ HK.out.m
        simp only [List.getElem?_toArray, List.getElem?_cons_zero, List.getElem?_cons_succ] at m0 m1
        have z0 := blk_frozen HK.out.m 0
        have z1 := blk_frozen HK.out.m 1
        go_wp2
        exact bodyPost_ret (v := .tuple #[vv (5, 0), .int .i64 0]) (by simp [results, Tryz.results31, go_sem, m0, m1]) rfl ⟨by rw [HE.out], (HK.out.b.setCell HX0.out _).setCell HX0.out _⟩
      · have hq' : (s.toList == [45, 73, 110, 102]) = false := by
          rw [beq_eq_false_iff_ne]
          intro h
          exact hq (ByteArray.ext (by rw [← Array.toList_inj, ← Lib.toList_data]; exact h))
        have HX : Sd (Past s 4) := ⟨⟨HQ.out.2.1, HQ.out.2.2.1, HQ.out.2.2.2, hq'⟩⟩
        go_wp2_with fail
        refine (HP5.out _ (HG.out.below (HK1.out.alloc _).b)).mono ?_
        rintro e w1 ⟨rfl, hb1⟩
        have HK := Sd.mk ((HK1.out.alloc _).below hb1)
        clear HK1 c0 c1 hb1
        go_wp2
        go_roundg 0
        case measure => have := HQ.out.1; omega
        case rel => exact ⟨HK, .inr (.inr (.inr (.inr (⟨rfl, ⟨rfl, HX.out⟩⟩))))⟩
    · have HQ2 := HQ.out.2
      clear HQ
      obtain ⟨l, hl⟩ : ∃ l, s.toList = l := ⟨_, rfl⟩
      have hls : l.length ≤ 20000 := by rw [← hl, Lib.toList_data, ← Lib.size_eq]; exact hs
      have HV : Sd (vParse l = pTail l) := by
        obtain ⟨q1, q2, q3, q4⟩ := HQ2
        rw [hl] at q1 q2 q3 q4
        unfold vParse
        rw [if_neg (by simpa using q1), if_neg (by simpa using q2), if_neg (by simpa using q3), if_neg (by simpa using q4)]
        exact ⟨rfl⟩
      clear HQ2
      obtain ⟨X, hX⟩ : ∃ X, X = sb (Lib.cut (Lib.trimPrefix l [45]) [46]).1 := ⟨_, rfl⟩
      obtain ⟨Y, hY⟩ : ∃ X, X = sb (Lib.cut (Lib.trimPrefix l [45]) [46]).2.1 := ⟨_, rfl⟩
      obtain ⟨fd, hfd⟩ : ∃ X, X = (Lib.cut (Lib.trimPrefix l [45]) [46]).2.2 := ⟨_, rfl⟩
      obtain ⟨Bd, hBd⟩ : ∃ X, X = sb (Lib.trimPrefix l [45]) := ⟨_, rfl⟩
      obtain ⟨mi, hmi⟩ : ∃ X, X = Lib.hasPrefix l [45] := ⟨_, rfl⟩
      have htl := trimPrefix_le l [45]
      obtain ⟨hcl1, hcl2⟩ := cut_le (Lib.trimPrefix l [45]) [46]
      have HC1 : ∀ w1, Calls Tryz.prog 44 #[.string s, .string ⟨#[45]⟩] w1 fun e w' => e = .returned (.tuple #[.string Bd, .bool mi]) ∧ w' = w1 := fun w1 => by
        rw [hBd, hmi, ← hl, Lib.toList_data]
        exact strings_CutPrefix s ⟨#[45]⟩ w1
      have HC2 : ∀ w1, Glob w1 → Calls Tryz.prog 45 #[.string Bd, .string ⟨#[46]⟩] w1 fun e w' => e = .returned (.tuple #[.string X, .string Y, .bool fd]) ∧ Below w1.heap.size w1 w' := fun w1 g => by
        obtain ⟨m, hm⟩ := g.max
        refine (strings_Cut Bd ⟨#[46]⟩ m w1 (by rw [hBd, sb_size]; omega) hm).mono fun e w' ⟨he, n, hw⟩ => ⟨?_, ?_⟩
        · rw [he, hX, hY, hfd, hBd]
        · rw [hw]; exact pbd (Below.refl _ _) n
      have hXs : X.size = (Lib.cut (Lib.trimPrefix l [45]) [46]).1.length := by rw [hX, sb_size]
      have hYs : Y.size = (Lib.cut (Lib.trimPrefix l [45]) [46]).2.1.length := by rw [hY, sb_size]
      have hX1 : X.size ≤ 20000 := by omega
      have hY1 : Y.size ≤ 20000 := by omega
      have HC1 := Sd.mk HC1
      have HC2 := Sd.mk HC2
      have HK := HK1
      clear HK1
      by_cases hy : Y.size ≤ 3
      · by_cases hx : X.size ≤ 13
        · have e48 : Lib.repeatL [48] (3 - Y.size) = List.replicate (3 - Y.size) 48 := by
            have h := Lib.repeatL_replicate 48 1 (3 - Y.size)
            rw [Nat.mul_one] at h
            exact h
          obtain ⟨Z, hZ⟩ : ∃ Z, Z = sb (List.replicate (3 - Y.size) (48 : UInt8)) := ⟨_, rfl⟩
          have hZs : Z.size = 3 - Y.size := by rw [hZ, sb_size, List.length_replicate]
          have HC3 : ∀ w1, Calls Tryz.prog 47 #[.string ⟨#[48]⟩, .int .i64 (3 - (Y.size : Int))] w1 fun e w' => e = .returned (.string Z) ∧ Below w1.heap.size w1 w' := fun w1 => by
            have h := strings_Repeat ⟨#[48]⟩ (3 - Y.size) w1 (by omega) (by show 1 * (3 - Y.size) ≤ _; omega)
            rw [show ((3 - Y.size : Nat) : Int) = 3 - (Y.size : Int) by omega] at h
            refine h.mono fun e w' ⟨he, hw⟩ => ⟨?_, hw⟩
            rw [he, hZ, ← e48]
          have HC3 := Sd.mk HC3
          have hZ1 : Z.size ≤ 3 := by omega
          have hT : (X ++ Y ++ Z).data.toList = (Lib.cut (Lib.trimPrefix l [45]) [46]).1 ++ (Lib.cut (Lib.trimPrefix l [45]) [46]).2.1 ++ List.replicate (3 - (Lib.cut (Lib.trimPrefix l [45]) [46]).2.1.length) 48 := by
            rw [hX, hY, hZ, sb_app, sb_app]
            show _ ++ _ ++ List.replicate (3 - Y.size) 48 = _
            rw [hYs]
          have hTs : (X ++ Y ++ Z).size ≠ 0 ∧ (X ++ Y ++ Z).size ≤ 16 := by
            rw [ByteArray.size_append, ByteArray.size_append]; omega
          have HC4 := fun w1 g => parseUint_calls (X ++ Y ++ Z) hTs.1 hTs.2 w1 g
          rw [hT] at HC4
          have hlen : ((Lib.cut (Lib.trimPrefix l [45]) [46]).1 ++ (Lib.cut (Lib.trimPrefix l [45]) [46]).2.1 ++ List.replicate (3 - (Lib.cut (Lib.trimPrefix l [45]) [46]).2.1.length) 48).length ≤ 16 := by
            rw [List.length_append, List.length_append, List.length_replicate]; omega
          have hlt := pu_lt ((Lib.cut (Lib.trimPrefix l [45]) [46]).1 ++ (Lib.cut (Lib.trimPrefix l [45]) [46]).2.1 ++ List.replicate (3 - (Lib.cut (Lib.trimPrefix l [45]) [46]).2.1.length) 48) 0
          have hT2 : pTail l = match pu 0 ((Lib.cut (Lib.trimPrefix l [45]) [46]).1 ++ (Lib.cut (Lib.trimPrefix l [45]) [46]).2.1 ++ List.replicate (3 - (Lib.cut (Lib.trimPrefix l [45]) [46]).2.1.length) 48) with
              | some n =>
                if (vNum (if mi = true then -(n : Int) else (n : Int))).1 = 1 then if vPrint (vNum (if mi = true then -(n : Int) else (n : Int))) = l then (vNum (if mi = true then -(n : Int) else (n : Int)), 0) else ((0, 0), 80) else ((0, 0), 80)
              | none => ((0, 0), 80) := by
            unfold pTail
            simp only
            rw [if_pos (by omega), if_pos (by omega), hmi]
          rw [hT2] at HV
          have hpw : 10 ^ ((Lib.cut (Lib.trimPrefix l [45]) [46]).1 ++ (Lib.cut (Lib.trimPrefix l [45]) [46]).2.1 ++ List.replicate (3 - (Lib.cut (Lib.trimPrefix l [45]) [46]).2.1.length) 48).length ≤ 10 ^ 16 := Nat.pow_le_pow_right (by omega) hlen
          generalize pu 0 ((Lib.cut (Lib.trimPrefix l [45]) [46]).1 ++ (Lib.cut (Lib.trimPrefix l [45]) [46]).2.1 ++ List.replicate (3 - (Lib.cut (Lib.trimPrefix l [45]) [46]).2.1.length) 48) = pr at HC4 HV hlt
          clear hT hTs hT2 e48 hZ hBd hmi hfd hlen hXs hYs hZs hX hY
          cases pr with
          | none =>
            have HC5 : ∀ w1, Glob w1 → Calls Tryz.prog 46 #[.string (X ++ Y ++ Z), .int .i64 10, .int .i64 62] w1 fun e w' => (∃ p, e = .returned (.tuple #[.int .u64 0, .iface 113 (.pointer (some p))])) ∧ Below w1.heap.size w1 w' := fun w1 g =>
              (HC4 w1 g).mono fun e w' h => by
                obtain ⟨hb, ⟨n', hn', he⟩ | ⟨hn', he⟩⟩ := h
                · cases hn'
                · exact ⟨he, hb⟩
            clear HC4 hlt hpw
            simp only at HV
            have HC5 := Sd.mk HC5
            clear hcl1 hcl2 htl hls
            have HN := Sd.mk num_zero
            have HM := Sd.mk num_zero
            cases mi
            · skip
              go_wp2_with (first
                | (go_at_call 44; refine (HC1.out _).mono ?_; rintro e w1 ⟨rfl, rfl⟩)
                | (go_at_call 45; refine (HC2.out _ (HG.out.below HK.out.b)).mono ?_; rintro e w1 ⟨rfl, hb1⟩; have HK := Sd.mk (HK.out.below hb1); clear hb1)
                | (go_at_call 47; refine (HC3.out _).mono ?_; rintro e w1 ⟨rfl, hb1⟩; have HK := Sd.mk (HK.out.below hb1); clear hb1)
                | (go_at_call 46; refine (HC5.out _ (HG.out.below HK.out.b)).mono ?_; rintro e w1 ⟨⟨p, rfl⟩, hb1⟩; have HK := Sd.mk (HK.out.below hb1); clear hb1)
                | (go_at_call 19; refine (HN.out _).mono ?_; rintro e w1 ⟨rfl, hb1⟩; have HK := Sd.mk (HK.out.below hb1); clear hb1; have m0 := (HK.out.alloc (.cells #[.int .i64 1, .int .i64 0] 25)).m0; have m1 := (HK.out.alloc (.cells #[.int .i64 1, .int .i64 0] 25)).m1; have z0 := (HK.out.alloc (.cells #[.int .i64 1, .int .i64 0] 25)).z0; have z1 := (HK.out.alloc (.cells #[.int .i64 1, .int .i64 0] 25)).z1))
              exact bodyPost_ret (v := .tuple #[vv (0, 0), .int .i64 80]) (by simp [results, Tryz.results31, go_sem, m0, m1]) rfl ⟨by first | rw [HV.out] | rw [hl, HV.out], ((HK.out.alloc _).b.setCell HX0.out _).setCell HX0.out _⟩
            · skip
              go_wp2_with (first
                | (go_at_call 44; refine (HC1.out _).mono ?_; rintro e w1 ⟨rfl, rfl⟩)
                | (go_at_call 45; refine (HC2.out _ (HG.out.below HK.out.b)).mono ?_; rintro e w1 ⟨rfl, hb1⟩; have HK := Sd.mk (HK.out.below hb1); clear hb1)
                | (go_at_call 47; refine (HC3.out _).mono ?_; rintro e w1 ⟨rfl, hb1⟩; have HK := Sd.mk (HK.out.below hb1); clear hb1)
                | (go_at_call 46; refine (HC5.out _ (HG.out.below HK.out.b)).mono ?_; rintro e w1 ⟨⟨p, rfl⟩, hb1⟩; have HK := Sd.mk (HK.out.below hb1); clear hb1)
                | (first | (go_at_call 19; (with_reducible refine (HM.out _).mono ?_); rintro e w2 ⟨rfl, hb1⟩; have SR := Sd.mk (slot_of HK.out 1 0 1 0 hb1); have n0 := SR.out.n0; have n1 := SR.out.n1; have f0 := SR.out.f0; have f1 := SR.out.f1; have dR := SR.out.d; have dR' := SR.out.d.symm; have m0 := SR.out.k.m0; have m1 := SR.out.k.m1; have z0 := SR.out.k.z0; have z1 := SR.out.k.z1; clear hb1) | (go_at_call 19; (with_reducible refine (HN.out _).mono ?_); rintro e w1 ⟨rfl, hb1⟩; have HK := Sd.mk (HK.out.below hb1); clear hb1)))
              exact bodyPost_ret (v := .tuple #[vv (0, 0), .int .i64 80]) (by simp [results, Tryz.results31, go_sem, m0, m1]) rfl ⟨by first | rw [HV.out] | rw [hl, HV.out], (SR.out.k.b.setCell HX0.out _).setCell HX0.out _⟩
          | some n =>
            have hn := hlt n rfl
            have hn1 : (n : Int) < 10000000000000000 := by omega
            have hn0 : (0 : Int) ≤ (n : Int) := by omega
            have HC5 : ∀ w1, Glob w1 → Calls Tryz.prog 46 #[.string (X ++ Y ++ Z), .int .i64 10, .int .i64 62] w1 fun e w' => e = .returned (.tuple #[.int .u64 n, .nilIface]) ∧ Below w1.heap.size w1 w' := fun w1 g =>
              (HC4 w1 g).mono fun e w' h => by
                obtain ⟨hb, ⟨n', hn', he⟩ | ⟨hn', _⟩⟩ := h
                · injection hn' with hn'; subst hn'; exact ⟨he, hb⟩
                · cases hn'
            clear HC4 hlt hn hpw
            simp only at HV
            obtain ⟨a, ha⟩ : ∃ a : Int, (n : Int) = a := ⟨_, rfl⟩
            rw [ha] at HV HC5 hn0 hn1
            have HC5 := Sd.mk HC5
            clear ha hcl1 hcl2 htl hls
            have HN := num_calls a
            cases mi with
            | false =>
              simp only [Bool.false_eq_true, if_false] at HV
              obtain ⟨⟨v1, v2⟩, hv⟩ : ∃ v : V, vNum a = v := ⟨_, rfl⟩
              rw [hv] at HV HN
              have HN := Sd.mk HN
              clear hv
              by_cases hk : v1 = 1
              · subst hk
                have HPr := print_calls 1 v2
                rw [if_pos rfl] at HV
                obtain ⟨Pt, hPt⟩ : ∃ P, sb (vPrint (1, v2)) = P := ⟨_, rfl⟩
                rw [hPt] at HPr
                have HPr := Sd.mk HPr
                by_cases he : vPrint (1, v2) = l
                · rw [if_pos he] at HV
                  have he2 : (Pt.toList == l) = true := by rw [← hPt, sb_toList, he]; simp
                  clear he hPt
                  go_wp2_with (first
                    | (go_at_call 44; refine (HC1.out _).mono ?_; rintro e w1 ⟨rfl, rfl⟩)
                    | (go_at_call 45; refine (HC2.out _ (HG.out.below HK.out.b)).mono ?_; rintro e w1 ⟨rfl, hb1⟩; have HK := Sd.mk (HK.out.below hb1); clear hb1)
                    | (go_at_call 47; refine (HC3.out _).mono ?_; rintro e w1 ⟨rfl, hb1⟩; have HK := Sd.mk (HK.out.below hb1); clear hb1)
                    | (go_at_call 46; refine (HC5.out _ (HG.out.below HK.out.b)).mono ?_; rintro e w1 ⟨rfl, hb1⟩; have HK := Sd.mk (HK.out.below hb1); clear hb1)
                    | (go_at_call 19; refine (HN.out _).mono ?_; rintro e w1 ⟨rfl, hb1⟩; have HK := Sd.mk (HK.out.below hb1); clear hb1; have m0 := HK.out.m0; have m1 := HK.out.m1; have z0 := HK.out.z0; have z1 := HK.out.z1)
                    | (go_at_call 33; refine (HPr.out _ (HG.out.below (HK.out.alloc _).b)).mono ?_; rintro e w2 ⟨rfl, hb1⟩; have n0 := pw_cell_below hb1 (blk_new0 w1 1 v2); have n1 := pw_cell_below hb1 (blk_new1 w1 1 v2); have HK := Sd.mk ((HK.out.alloc _).below hb1); clear hb1; have m0 := HK.out.m0; have m1 := HK.out.m1; have z0 := HK.out.z0; have z1 := HK.out.z1))
                  exact bodyPost_ret (v := .tuple #[vv (1, v2), .int .i64 0]) (by simp [results, Tryz.results31, go_sem, m0, m1]) rfl ⟨by first | rw [HV.out] | rw [hl, HV.out], (HK.out.b.setCell HX0.out _).setCell HX0.out _⟩
                · rw [if_neg he] at HV
                  have he2 : (Pt.toList == l) = false := by rw [← hPt, sb_toList]; simpa using he
                  clear he hPt
                  go_wp2_with (first
                    | (go_at_call 44; refine (HC1.out _).mono ?_; rintro e w1 ⟨rfl, rfl⟩)
                    | (go_at_call 45; refine (HC2.out _ (HG.out.below HK.out.b)).mono ?_; rintro e w1 ⟨rfl, hb1⟩; have HK := Sd.mk (HK.out.below hb1); clear hb1)
                    | (go_at_call 47; refine (HC3.out _).mono ?_; rintro e w1 ⟨rfl, hb1⟩; have HK := Sd.mk (HK.out.below hb1); clear hb1)
                    | (go_at_call 46; refine (HC5.out _ (HG.out.below HK.out.b)).mono ?_; rintro e w1 ⟨rfl, hb1⟩; have HK := Sd.mk (HK.out.below hb1); clear hb1)
                    | (go_at_call 19; refine (HN.out _).mono ?_; rintro e w1 ⟨rfl, hb1⟩; have HK := Sd.mk (HK.out.below hb1); clear hb1; have m0 := HK.out.m0; have m1 := HK.out.m1; have z0 := HK.out.z0; have z1 := HK.out.z1)
                    | (go_at_call 33; refine (HPr.out _ (HG.out.below (HK.out.alloc _).b)).mono ?_; rintro e w2 ⟨rfl, hb1⟩; have n0 := pw_cell_below hb1 (blk_new0 w1 1 v2); have n1 := pw_cell_below hb1 (blk_new1 w1 1 v2); have HK := Sd.mk ((HK.out.alloc _).below hb1); clear hb1; have m0 := HK.out.m0; have m1 := HK.out.m1; have z0 := HK.out.z0; have z1 := HK.out.z1))
                  exact bodyPost_ret (v := .tuple #[vv (0, 0), .int .i64 80]) (by simp [results, Tryz.results31, go_sem, m0, m1]) rfl ⟨by first | rw [HV.out] | rw [hl, HV.out], (HK.out.b.setCell HX0.out _).setCell HX0.out _⟩
              · rw [if_neg hk] at HV
                have hk2 : (v1 == 1) = false := by simpa using hk
                go_wp2_with (first
                  | (go_at_call 44; refine (HC1.out _).mono ?_; rintro e w1 ⟨rfl, rfl⟩)
                  | (go_at_call 45; refine (HC2.out _ (HG.out.below HK.out.b)).mono ?_; rintro e w1 ⟨rfl, hb1⟩; have HK := Sd.mk (HK.out.below hb1); clear hb1)
                  | (go_at_call 47; refine (HC3.out _).mono ?_; rintro e w1 ⟨rfl, hb1⟩; have HK := Sd.mk (HK.out.below hb1); clear hb1)
                  | (go_at_call 46; refine (HC5.out _ (HG.out.below HK.out.b)).mono ?_; rintro e w1 ⟨rfl, hb1⟩; have HK := Sd.mk (HK.out.below hb1); clear hb1)
                  | (go_at_call 19; refine (HN.out _).mono ?_; rintro e w1 ⟨rfl, hb1⟩; have HK := Sd.mk (HK.out.below hb1); clear hb1; have m0 := (HK.out.alloc (.cells #[.int .i64 v1, .int .i64 v2] 25)).m0; have m1 := (HK.out.alloc (.cells #[.int .i64 v1, .int .i64 v2] 25)).m1; have z0 := (HK.out.alloc (.cells #[.int .i64 v1, .int .i64 v2] 25)).z0; have z1 := (HK.out.alloc (.cells #[.int .i64 v1, .int .i64 v2] 25)).z1))
                exact bodyPost_ret (v := .tuple #[vv (0, 0), .int .i64 80]) (by simp [results, Tryz.results31, go_sem, m0, m1]) rfl ⟨by first | rw [HV.out] | rw [hl, HV.out], ((HK.out.alloc _).b.setCell HX0.out _).setCell HX0.out _⟩
            | true =>
              simp only [if_true] at HV
              obtain ⟨⟨x1, x2⟩, hx⟩ : ∃ v : V, vNum a = v := ⟨_, rfl⟩
              rw [hx] at HN
              have HN := Sd.mk HN
              clear hx
              obtain ⟨⟨v1, v2⟩, hv⟩ : ∃ v : V, vNum (-a) = v := ⟨_, rfl⟩
              have HM := num_calls (-a)
              rw [hv] at HV HM
              have HM := Sd.mk HM
              clear hv
              by_cases hk : v1 = 1
              · subst hk
                have HPr := print_calls 1 v2
                rw [if_pos rfl] at HV
                obtain ⟨Pt, hPt⟩ : ∃ P, sb (vPrint (1, v2)) = P := ⟨_, rfl⟩
                rw [hPt] at HPr
                have HPr := Sd.mk HPr
                by_cases he : vPrint (1, v2) = l
                · rw [if_pos he] at HV
                  have he2 : (Pt.toList == l) = true := by rw [← hPt, sb_toList, he]; simp
                  clear he hPt
                  go_wp2_with (first
                    | (go_at_call 44; refine (HC1.out _).mono ?_; rintro e w1 ⟨rfl, rfl⟩)
                    | (go_at_call 45; refine (HC2.out _ (HG.out.below HK.out.b)).mono ?_; rintro e w1 ⟨rfl, hb1⟩; have HK := Sd.mk (HK.out.below hb1); clear hb1)
                    | (go_at_call 47; refine (HC3.out _).mono ?_; rintro e w1 ⟨rfl, hb1⟩; have HK := Sd.mk (HK.out.below hb1); clear hb1)
                    | (go_at_call 46; refine (HC5.out _ (HG.out.below HK.out.b)).mono ?_; rintro e w1 ⟨rfl, hb1⟩; have HK := Sd.mk (HK.out.below hb1); clear hb1)
                    | (go_at_call 19; (with_reducible refine (HN.out _).mono ?_); rintro e w1 ⟨rfl, hb1⟩; have HK := Sd.mk (HK.out.below hb1); clear hb1)
                    | (go_at_call 19; (with_reducible refine (HM.out _).mono ?_); rintro e w2 ⟨rfl, hb1⟩; have SR := Sd.mk (slot_of HK.out x1 x2 1 v2 hb1); have n0 := SR.out.n0; have n1 := SR.out.n1; have f0 := SR.out.f0; have f1 := SR.out.f1; have dR := SR.out.d; have dR' := SR.out.d.symm; have m0 := SR.out.k.m0; have m1 := SR.out.k.m1; have z0 := SR.out.k.z0; have z1 := SR.out.k.z1; clear hb1)
                    | (go_at_call 33; refine (HPr.out _ (HG.out.below SR.out.k.b)).mono ?_; rintro e w3 ⟨rfl, hb1⟩; have r3 := row_below hb1 SR.out.r; have n0 := (blk_cell r3 0).trans (rfl : _ = some (Value.int .i64 1)); have n1 := (blk_cell r3 1).trans (rfl : _ = some (Value.int .i64 v2)); have HK := Sd.mk (SR.out.k.below hb1); clear hb1 r3; have m0 := HK.out.m0; have m1 := HK.out.m1; have z0 := HK.out.z0; have z1 := HK.out.z1))
                  exact bodyPost_ret (v := .tuple #[vv (1, v2), .int .i64 0]) (by simp [results, Tryz.results31, go_sem, m0, m1]) rfl ⟨by first | rw [HV.out] | rw [hl, HV.out], (HK.out.b.setCell HX0.out _).setCell HX0.out _⟩
                · rw [if_neg he] at HV
                  have he2 : (Pt.toList == l) = false := by rw [← hPt, sb_toList]; simpa using he
                  clear he hPt
                  go_wp2_with (first
                    | (go_at_call 44; refine (HC1.out _).mono ?_; rintro e w1 ⟨rfl, rfl⟩)
                    | (go_at_call 45; refine (HC2.out _ (HG.out.below HK.out.b)).mono ?_; rintro e w1 ⟨rfl, hb1⟩; have HK := Sd.mk (HK.out.below hb1); clear hb1)
                    | (go_at_call 47; refine (HC3.out _).mono ?_; rintro e w1 ⟨rfl, hb1⟩; have HK := Sd.mk (HK.out.below hb1); clear hb1)
                    | (go_at_call 46; refine (HC5.out _ (HG.out.below HK.out.b)).mono ?_; rintro e w1 ⟨rfl, hb1⟩; have HK := Sd.mk (HK.out.below hb1); clear hb1)
                    | (go_at_call 19; (with_reducible refine (HN.out _).mono ?_); rintro e w1 ⟨rfl, hb1⟩; have HK := Sd.mk (HK.out.below hb1); clear hb1)
                    | (go_at_call 19; (with_reducible refine (HM.out _).mono ?_); rintro e w2 ⟨rfl, hb1⟩; have SR := Sd.mk (slot_of HK.out x1 x2 1 v2 hb1); have n0 := SR.out.n0; have n1 := SR.out.n1; have f0 := SR.out.f0; have f1 := SR.out.f1; have dR := SR.out.d; have dR' := SR.out.d.symm; have m0 := SR.out.k.m0; have m1 := SR.out.k.m1; have z0 := SR.out.k.z0; have z1 := SR.out.k.z1; clear hb1)
                    | (go_at_call 33; refine (HPr.out _ (HG.out.below SR.out.k.b)).mono ?_; rintro e w3 ⟨rfl, hb1⟩; have r3 := row_below hb1 SR.out.r; have n0 := (blk_cell r3 0).trans (rfl : _ = some (Value.int .i64 1)); have n1 := (blk_cell r3 1).trans (rfl : _ = some (Value.int .i64 v2)); have HK := Sd.mk (SR.out.k.below hb1); clear hb1 r3; have m0 := HK.out.m0; have m1 := HK.out.m1; have z0 := HK.out.z0; have z1 := HK.out.z1))
                  exact bodyPost_ret (v := .tuple #[vv (0, 0), .int .i64 80]) (by simp [results, Tryz.results31, go_sem, m0, m1]) rfl ⟨by first | rw [HV.out] | rw [hl, HV.out], (HK.out.b.setCell HX0.out _).setCell HX0.out _⟩
              · rw [if_neg hk] at HV
                have hk2 : (v1 == 1) = false := by simpa using hk
                go_wp2_with (first
                  | (go_at_call 44; refine (HC1.out _).mono ?_; rintro e w1 ⟨rfl, rfl⟩)
                  | (go_at_call 45; refine (HC2.out _ (HG.out.below HK.out.b)).mono ?_; rintro e w1 ⟨rfl, hb1⟩; have HK := Sd.mk (HK.out.below hb1); clear hb1)
                  | (go_at_call 47; refine (HC3.out _).mono ?_; rintro e w1 ⟨rfl, hb1⟩; have HK := Sd.mk (HK.out.below hb1); clear hb1)
                  | (go_at_call 46; refine (HC5.out _ (HG.out.below HK.out.b)).mono ?_; rintro e w1 ⟨rfl, hb1⟩; have HK := Sd.mk (HK.out.below hb1); clear hb1)
                  | (go_at_call 19; (with_reducible refine (HN.out _).mono ?_); rintro e w1 ⟨rfl, hb1⟩; have HK := Sd.mk (HK.out.below hb1); clear hb1)
                  | (go_at_call 19; (with_reducible refine (HM.out _).mono ?_); rintro e w2 ⟨rfl, hb1⟩; have SR := Sd.mk (slot_of HK.out x1 x2 v1 v2 hb1); have n0 := SR.out.n0; have n1 := SR.out.n1; have f0 := SR.out.f0; have f1 := SR.out.f1; have dR := SR.out.d; have dR' := SR.out.d.symm; have m0 := SR.out.k.m0; have m1 := SR.out.k.m1; have z0 := SR.out.k.z0; have z1 := SR.out.k.z1; clear hb1))
                exact bodyPost_ret (v := .tuple #[vv (0, 0), .int .i64 80]) (by simp [results, Tryz.results31, go_sem, m0, m1]) rfl ⟨by first | rw [HV.out] | rw [hl, HV.out], (SR.out.k.b.setCell HX0.out _).setCell HX0.out _⟩
        · have hT2 : pTail l = ((0, 0), 80) := by
            unfold pTail
            simp only
            rw [if_pos (by omega), if_neg (by omega)]
          rw [hT2] at HV
          clear hT2 hXs hYs hX hY hBd hmi hfd hcl1 hcl2 htl
          go_wp2_with (first
            | (go_at_call 44; refine (HC1.out _).mono ?_; rintro e w1 ⟨rfl, rfl⟩)
            | (go_at_call 45; refine (HC2.out _ (HG.out.below HK.out.b)).mono ?_; rintro e w1 ⟨rfl, hb1⟩; have HK := Sd.mk (HK.out.below hb1); clear hb1; have m0 := HK.out.m0; have m1 := HK.out.m1; have z0 := HK.out.z0; have z1 := HK.out.z1))
          exact bodyPost_ret (v := .tuple #[vv (0, 0), .int .i64 80]) (by simp [results, Tryz.results31, go_sem, m0, m1]) rfl ⟨by first | rw [HV.out] | rw [hl, HV.out], (HK.out.b.setCell HX0.out _).setCell HX0.out _⟩
      · have hT2 : pTail l = ((0, 0), 80) := by
          unfold pTail
          simp only
          rw [if_neg (by omega)]
        rw [hT2] at HV
        clear hT2 hXs hYs hX hY hBd hmi hfd hcl1 hcl2 htl
        go_wp2_with (first
          | (go_at_call 44; refine (HC1.out _).mono ?_; rintro e w1 ⟨rfl, rfl⟩)
          | (go_at_call 45; refine (HC2.out _ (HG.out.below HK.out.b)).mono ?_; rintro e w1 ⟨rfl, hb1⟩; have HK := Sd.mk (HK.out.below hb1); clear hb1; have m0 := HK.out.m0; have m1 := HK.out.m1; have z0 := HK.out.z0; have z1 := HK.out.z1))
        exact bodyPost_ret (v := .tuple #[vv (0, 0), .int .i64 80]) (by simp [results, Tryz.results31, go_sem, m0, m1]) rfl ⟨by first | rw [HV.out] | rw [hl, HV.out], (HK.out.b.setCell HX0.out _).setCell HX0.out _⟩
end Go.Proofs.YtcmiehddjgfjaaaGreatDoor.A
namespace Go.Proofs.YtcmiehddjgfjaaaGreatDoor.A
open Go.RowKit Go.Proofs.YtcmiehddjgfjaaaGreatDoorW.PrintWords Go.Proofs.YtcmiehddjgfjaaaGreatDoorW.PrintLast Go.Proofs.YtcmiehddjgfjaaaGreatDoorW.PrintMore
set_option linter.unusedVariables false
set_option linter.unusedSimpArgs false
theorem itoa_nat (n : Nat) : Lib.itoa (n : Int) = Lib.decDigits n := by
  unfold Lib.itoa
  rw [if_neg (by omega), Int.toNat_natCast]
/-- The text of so many thousandths. -/
def nBody (m : Nat) : List UInt8 := Lib.decDigits (m / 1000) ++ (if m % 1000 > 0 then 46 :: frac (m % 1000) else [])
theorem pBody_nat (m : Nat) : pBody (m : Int) = nBody m := by
  unfold pBody nBody
  rw [show ((m : Int) / 1000) = ((m / 1000 : Nat) : Int) by omega, show ((m : Int) % 1000) = ((m % 1000 : Nat) : Int) by omega, itoa_nat]
  by_cases h : m % 1000 > 0
  · rw [if_pos h, if_pos (by omega), show (1000 : Int) + ((m % 1000 : Nat) : Int) = ((1000 + m % 1000 : Nat) : Int) by omega, itoa_nat, dec_1000 _ (by omega)]
    rfl
  · rw [if_neg h, if_neg (by omega)]
theorem nBody_head (m : Nat) : ∃ c r, nBody m = c :: r ∧ 48 ≤ c.toNat ∧ c.toNat ≤ 57 := by
  obtain ⟨c, r, e, h⟩ := dec_head (m / 1000)
  unfold nBody
  rw [e]
  exact ⟨c, _, rfl, h⟩
theorem dec_nodot (u : Nat) : ∀ c ∈ Lib.decDigits u, c ≠ 46 := fun c hc he => by
  have := dec_digits u c hc
  rw [he] at this
  have h46 : (46 : UInt8).toNat = 46 := rfl
  omega
theorem nBody_cut (m : Nat) : (Lib.cut (nBody m) [46]).1 = Lib.decDigits (m / 1000) ∧ (Lib.cut (nBody m) [46]).2.1 = (if m % 1000 > 0 then frac (m % 1000) else []) := by
  unfold nBody
  by_cases h : m % 1000 > 0
  · rw [if_pos h, if_pos h, cut_dot _ _ (dec_nodot _)]
    exact ⟨rfl, rfl⟩
  · rw [if_neg h, if_neg h, List.append_nil, cut_free _ (dec_nodot _)]
    exact ⟨rfl, rfl⟩
theorem nBody_pu (m : Nat) : pu 0 ((Lib.cut (nBody m) [46]).1 ++ (Lib.cut (nBody m) [46]).2.1 ++ List.replicate (3 - (Lib.cut (nBody m) [46]).2.1.length) 48) = some m := by
  obtain ⟨e1, e2⟩ := nBody_cut m
  rw [e1, e2, List.append_assoc, pu_dec]
  by_cases h : m % 1000 > 0
  · rw [if_pos h, pu_frac _ _ h (by omega), show m / 1000 * 1000 + m % 1000 = m by omega]
  · rw [if_neg h]
    show pu (m / 1000) [dg8 0, dg8 0, dg8 0] = _
    rw [pu_dg (by omega), pu_dg (by omega), pu_dg (by omega)]
    show some _ = some _
    congr 1; omega
theorem nBody_len (m : Nat) (hm : m ≤ 1000000000000000) : (Lib.cut (nBody m) [46]).1.length ≤ 13 ∧ (Lib.cut (nBody m) [46]).2.1.length ≤ 3 := by
  obtain ⟨e1, e2⟩ := nBody_cut m
  rw [e1, e2]
  refine ⟨dec_len 12 _ (by omega), ?_⟩
  split
  · exact (frac_len _ (by omega) (by omega)).2
  · simp
theorem cut_at (l : List UInt8) (m : Nat) (hm : m ≤ 1000000000000000) (mi : Bool) (n : Int) (hb : Lib.trimPrefix l [45] = nBody m) (hp : Lib.hasPrefix l [45] = mi) (hn : (if mi = true then -(m : Int) else (m : Int)) = n) (hl : vPrint (1, n) = l) : pTail l = ((1, n), 0) := by
  have h1 := nBody_len m hm
  have hv : vNum n = (1, n) := by
    unfold vNum
    cases mi <;> simp at hn <;> rw [if_neg (by omega), if_neg (by omega)]
  unfold pTail
  rw [hb, hp]
  simp only
  rw [if_pos h1.2, if_pos h1.1, nBody_pu]
  simp only
  rw [hn, hv, if_pos rfl, if_pos hl]
theorem print_head (n : Int) (hv : isV (1, n)) : ∃ m : Nat, m ≤ 1000000000000000 ∧ vPrint (1, n) = (if n < 0 then 45 :: nBody m else nBody m) ∧ n = (if n < 0 then -(m : Int) else (m : Int)) := by
  have hn : -1000000000000000 ≤ n ∧ n ≤ 1000000000000000 := isV_n hv
  refine ⟨n.natAbs, by omega, ?_, by split <;> omega⟩
  unfold vPrint
  rw [if_pos hv]
  unfold pText
  simp only
  rw [if_neg (by decide), if_neg (by decide), if_neg (by decide), if_neg (by decide)]
  by_cases h : n < 0
  · rw [if_pos h, if_pos h, show -n = ((n.natAbs : Nat) : Int) by omega, pBody_nat]
  · rw [if_neg h, if_neg h]
    conv => lhs; rw [show n = ((n.natAbs : Nat) : Int) by omega]
    rw [pBody_nat]
/-- What is printed is parsed to the same value. -/
theorem parse_print (v : V) (hv : isV v) : vParse (vPrint v) = (v, 0) := by
  obtain ⟨k, n⟩ := v
  have hv0 := hv
  rcases hv with ⟨hk, h1, h2⟩ | ⟨hk, h1⟩
  · obtain rfl : k = 1 := hk
    obtain ⟨m, hm, hp, hn⟩ := print_head n hv0
    obtain ⟨c, r, e, hc1, hc2⟩ := nBody_head m
    have n1 : c ≠ 110 := fun h => by rw [h] at hc2; exact absurd hc2 (by decide)
    have n2 : c ≠ 78 := fun h => by rw [h] at hc2; exact absurd hc2 (by decide)
    have n3 : c ≠ 43 := fun h => by rw [h] at hc1; exact absurd hc1 (by decide)
    have n4 : c ≠ 45 := fun h => by rw [h] at hc1; exact absurd hc1 (by decide)
    have n5 : c ≠ 73 := fun h => by rw [h] at hc2; exact absurd hc2 (by decide)
    unfold vParse
    by_cases h : n < 0
    · rw [if_pos h] at hp hn
      have hp' : vPrint (1, n) = 45 :: c :: r := by rw [hp, e]
      rw [hp', if_neg (by simp), if_neg (by simp), if_neg (by simp), if_neg (by simp [n5])]
      refine cut_at _ m hm true n ?_ ?_ (by rw [if_pos rfl]; exact hn.symm) (by rw [hp'])
      · rw [← e]; simp [Lib.trimPrefix, Lib.hasPrefix]
      · simp [Lib.hasPrefix]
    · rw [if_neg h] at hp hn
      have hp' : vPrint (1, n) = c :: r := by rw [hp, e]
      rw [hp', if_neg (by simp [n1]), if_neg (by simp [n2]), if_neg (by simp [n3]), if_neg (by simp [n4])]
      have hf : Lib.hasPrefix (c :: r) [45] = false := by
        show ((45 : UInt8) == c && [].isPrefixOf r) = false
        rw [beq_false_of_ne (Ne.symm n4)]; rfl
      refine cut_at _ m hm false n ?_ hf (by simpa using hn.symm) (by rw [hp'])
      unfold Lib.trimPrefix
      rw [hf, ← e]; simp
  · have e : n = 0 := h1
    subst e
    have hp : vPrint (k, 0) = pText (k, 0) := if_pos hv0
    rw [hp]
    rcases hk with hk | hk | hk | hk <;> (have hk' := hk; simp only at hk'; subst hk'; rfl)
end Go.Proofs.YtcmiehddjgfjaaaGreatDoor.A
namespace Go.Proofs.YtcmiehddjgfjaaaGreatDoor.A
open Go.RowKit Go.Proofs.YtcmiehddjgfjaaaGreatDoorW.PrintWords Go.Proofs.YtcmiehddjgfjaaaGreatDoorW.PrintLast Go.Proofs.YtcmiehddjgfjaaaGreatDoorW.PrintMore
set_option linter.unusedVariables false
theorem op2_add : tab2.lookup ⟨#[43]⟩ = some (vNumbers vAdd) := rfl
theorem op2_sub : tab2.lookup ⟨#[45]⟩ = some (vNumbers vSub) := rfl
theorem op2_mul : tab2.lookup ⟨#[42]⟩ = some (vNumbers vMul) := rfl
theorem op2_div : tab2.lookup ⟨#[47]⟩ = some (vNumbers vDiv) := rfl
theorem op2_eq : tab2.lookup ⟨#[61, 61]⟩ = some (vOrder false (fun m n => m == n)) := rfl
theorem op2_ne : tab2.lookup ⟨#[33, 61]⟩ = some (vOrder true (fun m n => m != n)) := rfl
theorem op2_lt : tab2.lookup ⟨#[60]⟩ = some (vOrder false (fun m n => decide (m < n))) := rfl
theorem op2_le : tab2.lookup ⟨#[60, 61]⟩ = some (vOrder false (fun m n => decide (m ≤ n))) := rfl
theorem op2_gt : tab2.lookup ⟨#[62]⟩ = some (vOrder false (fun m n => decide (m > n))) := rfl
theorem op2_ge : tab2.lookup ⟨#[62, 61]⟩ = some (vOrder false (fun m n => decide (m ≥ n))) := rfl
theorem op2_and : tab2.lookup ⟨#[38, 38]⟩ = some vAnd := rfl
theorem op2_or : tab2.lookup ⟨#[124, 124]⟩ = some vOr := rfl
/-- What an operation of two values comes to. -/
def vTwo (F : V → V → V) (a b : V) : V := if a.1 = 2 ∨ b.1 = 2 then (2, 0) else F a b
theorem do_2 {op : ByteArray} {F : V → V → V} (ht : tab2.lookup op = some F) {a b : V} (ha : isV a) (hb : isV b) : v_Do.f op [⟨a.1, a.2⟩, ⟨b.1, b.2⟩] = some ((vTwo F a b).1, (vTwo F a b).2, 0) := by
  have e : vDo op [a, b] = (vTwo F a b, 0) := by
    unfold vDo vTwo
    have hn : ([a, b].any fun x => !decide (isV x)) = false := by simp [ha, hb]
    rw [hn]
    simp only [Bool.false_eq_true, if_false, ht]
    split <;> rfl
  unfold v_Do.f
  show some ((vDo op [a, b]).1.1, (vDo op [a, b]).1.2, (vDo op [a, b]).2) = _
  rw [e]
end Go.Proofs.YtcmiehddjgfjaaaGreatDoor.A
namespace Go.Proofs.YtcmiehddjgfjaaaGreatDoor.A
open Go.RowKit Go.Proofs.YtcmiehddjgfjaaaGreatDoorW.PrintWords Go.Proofs.YtcmiehddjgfjaaaGreatDoorW.PrintLast Go.Proofs.YtcmiehddjgfjaaaGreatDoorW.PrintMore Go.Proofs.YtcmiehddjgfjaaaGreatDoor.H Go.Sort
set_option linter.unusedVariables false
set_option linter.unusedSimpArgs false
theorem fresh_C1 (w : World) (a1 a2 : Int) : Kd.C k25 (w.alloc (.cells #[.int .i64 a1, .int .i64 a2] 25)) (some ⟨w.heap.size, 0, none⟩) 1 [⟨a1, a2⟩] := by
  have r := blk_new w (.cells #[.int .i64 a1, .int .i64 a2] 25)
  refine ⟨rfl, by have : maxLen = 9223372036854775807 := rfl; simp, fun _ => ⟨_, rfl, fun j p hp => ?_⟩⟩
  match j, hp with
  | 0, hp =>
    injection hp with hp
    subst hp
    exact ⟨[.int .i64 a1, .int .i64 a2], rfl, k25_mk _ _, fun i u hu => by
      match i, hu with
      | 0, hu => exact (blk_cell r 0).trans hu
      | 1, hu => exact (blk_cell r 1).trans hu
      | i + 2, hu => simp at hu⟩
  | j + 1, hp => simp at hp
theorem fresh_C2 (w : World) (a1 a2 b1 b2 : Int) : Kd.C k25 (w.alloc (.cells #[.int .i64 a1, .int .i64 a2, .int .i64 b1, .int .i64 b2] 25)) (some ⟨w.heap.size, 0, none⟩) 2 [⟨a1, a2⟩, ⟨b1, b2⟩] := by
  have r := blk_new w (.cells #[.int .i64 a1, .int .i64 a2, .int .i64 b1, .int .i64 b2] 25)
  refine ⟨rfl, by have : maxLen = 9223372036854775807 := rfl; simp, fun _ => ⟨_, rfl, fun j p hp => ?_⟩⟩
  match j, hp with
  | 0, hp =>
    injection hp with hp
    subst hp
    exact ⟨[.int .i64 a1, .int .i64 a2], rfl, k25_mk _ _, fun i u hu => by
      match i, hu with
      | 0, hu => exact (blk_cell r 0).trans hu
      | 1, hu => exact (blk_cell r 1).trans hu
      | i + 2, hu => simp at hu⟩
  | 1, hp =>
    injection hp with hp
    subst hp
    exact ⟨[.int .i64 b1, .int .i64 b2], rfl, k25_mk _ _, fun i u hu => by
      match i, hu with
      | 0, hu => exact (blk_cell r 2).trans hu
      | 1, hu => exact (blk_cell r 3).trans hu
      | i + 2, hu => simp at hu⟩
  | j + 2, hp => simp at hp
/-- value.Do of two values that were laid into a slice just now. -/
theorem do2_fresh {op : ByteArray} {F : V → V → V} (ht : tab2.lookup op = some F) {a b : V} (ha : isV a) (hb : isV b) {r : V} (hr : vTwo F a b = r) (w : World) :
    Calls Tryz.prog 11 #[.string op, .slice (some ⟨w.heap.size, 0, none⟩) 2 2] (w.alloc (.cells #[.int .i64 a.1, .int .i64 a.2, .int .i64 b.1, .int .i64 b.2] 25)) fun e w' => e = .returned (.tuple #[.agg #[.int .i64 r.1, .int .i64 r.2], .int .i64 0]) ∧ Below w.heap.size w w' := by
  subst hr
  exact (v_Do.calls op _ 2 [⟨a.1, a.2⟩, ⟨b.1, b.2⟩] _ _ _ _ (fresh_C2 w a.1 a.2 b.1 b.2) (Nat.le_refl _) (do_2 ht ha hb)).mono fun e w' ⟨he, hb⟩ => ⟨he, (below_one w _).trans (hb.mono (below_one w _).size)⟩
/-- A world in which nothing that was has turned. -/
structure Bw (w0 : World) where
  w : World
  h : Below w0.heap.size w0 w
instance (w : World) : Inhabited (Bw w) := ⟨⟨w, Below.refl _ _⟩⟩
theorem Bw.at {P : Program} {f : Nat} {args : Array Value} {v : Value} {w0 : World} (p : Bw w0) (h : Calls P f args p.w fun e w' => e = .returned v ∧ Below p.w.heap.size p.w w') : Calls P f args p.w fun e w' => e = .returned v ∧ ∃ q : Bw w0, w' = q.w :=
  h.mono fun _ _ ⟨he, hb⟩ => ⟨he, ⟨_, p.h.trans (hb.mono p.h.size)⟩, rfl⟩
theorem Bw.cell {w0 : World} (p : Bw w0) {a : Addr} {v : Value} (h : w0.cell? a = some v) : p.w.cell? a = some v := pw_cell_below p.h h
/-- Boxes that stand: each a block of its own with a value's two cells. -/
structure Bx (w : World) (L : List (Nat × Int × Int)) (w1 : World) : Prop where
  b : Below w.heap.size w w1
  r : ∀ x ∈ L, w1.heap[x.1]? = some (.cells #[.int .i64 x.2.1, .int .i64 x.2.2] 25 (0, 0))
theorem Bx.start (w : World) : Bx w [] w := ⟨Below.refl _ _, fun x h => by cases h⟩
theorem Bx.below {w w1 w2 : World} {L : List (Nat × Int × Int)} (h : Bx w L w1) (hb : Below w1.heap.size w1 w2) : Bx w L w2 :=
  ⟨h.b.trans (hb.mono h.b.size), fun x hx => row_below hb (h.r x hx)⟩
theorem Bx.alloc {w w1 : World} {L : List (Nat × Int × Int)} (h : Bx w L w1) (o : Obj) : Bx w L (w1.alloc o) := h.below (below_one w1 o)
theorem Bx.drewN {w w1 : World} {L : List (Nat × Int × Int)} (h : Bx w L w1) (n : Nat) : Bx w L (w1.drewN n) := h.below (pbd (Below.refl _ _) n)
theorem Bx.push {w w1 : World} {L : List (Nat × Int × Int)} (h : Bx w L w1) (a b : Int) : Bx w ((w1.heap.size, a, b) :: L) (w1.alloc (.cells #[.int .i64 a, .int .i64 b] 25)) :=
  ⟨(h.alloc _).b, fun x hx => by
    rcases List.mem_cons.1 hx with rfl | hx
    · exact blk_new w1 _
    · exact (h.alloc _).r x hx⟩
theorem Bx.c0 {w w1 : World} {L : List (Nat × Int × Int)} (h : Bx w L w1) {n : Nat} {a b : Int} (hx : (n, a, b) ∈ L) : w1.cell? ⟨n, 0, none⟩ = some (.int .i64 a) := (blk_cell (h.r _ hx) 0).trans rfl
theorem Bx.c1 {w w1 : World} {L : List (Nat × Int × Int)} (h : Bx w L w1) {n : Nat} {a b : Int} (hx : (n, a, b) ∈ L) : w1.cell? ⟨n, 1, none⟩ = some (.int .i64 b) := (blk_cell (h.r _ hx) 1).trans rfl
theorem num_in (n : Int) (h0 : -1000000000000000 ≤ n) (h1 : n ≤ 1000000000000000) (w : World) : Calls Tryz.prog 19 #[.int .i64 n] w fun e w' => e = .returned (.agg #[.int .i64 1, .int .i64 n]) ∧ Below w.heap.size w w' := by
  have h := num_calls n w
  have e : vNum n = (1, n) := by unfold vNum; rw [if_neg (by omega), if_neg (by omega)]
  rw [e] at h
  exact h
end Go.Proofs.YtcmiehddjgfjaaaGreatDoor.A
namespace Go.Proofs.YtcmiehddjgfjaaaGreatDoor.A
open Go.RowKit Go.Proofs.YtcmiehddjgfjaaaGreatDoorW.PrintWords Go.Proofs.YtcmiehddjgfjaaaGreatDoorW.PrintLast Go.Proofs.YtcmiehddjgfjaaaGreatDoorW.PrintMore
attribute [local go_sem] max2_int min2_int max_two min_two max_three min_three max_four min_four   -- for this text's walks alone
set_option linter.unusedVariables false
set_option linter.unusedSimpArgs false
def r8_Plus.f  : Option (Int × Int) := some (4, 0)
set_option maxHeartbeats 8000000 in
set_option maxRecDepth 100000 in
theorem r8_Plus.calls  (r1 : Int) (r2 : Int) (w : World) (h : r8_Plus.f  = some (r1, r2)) :
  Calls Tryz.prog 28 #[] w fun e w' => e = .returned (.agg #[.int .i64 r1, .int .i64 r2]) ∧ Below w.heap.size w w' := by
 have hu25 := Tryz.underlying25
 have HB := Sd.mk (Below.refl w.heap.size w)
 have H : (some (4, 0)) = some (r1, r2) := h
 clear h
 simp only [Option.some.injEq, Prod.mk.injEq] at H
 obtain ⟨rfl, rfl⟩ := H
 go_enter Tryz.func28, Tryz.ntmps28
 go_wp2_with (first | ((with_reducible refine gate_dst (N := 0) rfl ?_); refine box_event ?hg (N := 0) ?hd (cs := #[.int .i64 0, .int .i64 0]) (t := 25) ?hr ?_; (case hd => rfl); (case hg => rfl); (case hr => first | (go_simp; done) | (go_simp; rfl)); intro gb222 hg w1 hbox hb; have n0_ := Sd.mk (below_step (by exact blwF HB.out) hb); have n1_ := Sd.mk (hbox); have n2_ := Sd.mk ((by rw [hg]; exact (below_size (by exact blwF HB.out)) : w.heap.size ≤ gb222)); have n3_ := Sd.mk ((by rw [hg]; exact (below_size (by exact blwF HB.out)) : w.heap.size ≤ gb222)); clear HB; have HB := n0_; have BK222 := n1_; have GW222 := n2_; have GE222 := n3_; clear n0_ n1_ n2_ n3_; clear hb hbox hg; have hcz2_0 : w1.cell? ⟨gb222, 0, none⟩ = some (.int .i64 0) := (blk_cell BK222.out 0).trans rfl; have hcz2_1 : w1.cell? ⟨gb222, 1, none⟩ = some (.int .i64 0) := (blk_cell BK222.out 1).trans rfl; have hfz2_0 := blk_frozen BK222.out 0; have hfz2_1 := blk_frozen BK222.out 1))
 refine bodyPost_ret (results_cell_row rfl _ _ gb222 25 #[.int .i64 4, .int .i64 0] (0, 0) _ rfl (by (with_reducible repeat (first | refine blk_drewN ?_ _ | refine blk_drew ?_ | refine blk_alloc ?_ _)); refine blk_put (cs := #[.int .i64 4, .int .i64 0]) ?_ 1 _ rfl; (with_reducible repeat (first | refine blk_drewN ?_ _ | refine blk_drew ?_ | refine blk_alloc ?_ _)); refine blk_put (cs := #[.int .i64 0, .int .i64 0]) ?_ 0 _ rfl; (with_reducible repeat (first | refine blk_drewN ?_ _ | refine blk_drew ?_ | refine blk_alloc ?_ _)); exact BK222.out) Tryz.underlying25 rfl (by kernel_rfl)) rfl ?_
 exact ⟨by first | rfl | (simp [errW_none, errW_some] <;> rfl) | (simp [*, errW_none, errW_some] <;> rfl), by repeat (first | (with_reducible first | exact HB.out | apply bal | apply pbd | apply bd1 | refine bst ?_ GE222.out) | exact HB.out)⟩
def r8_Minus.f  : Option (Int × Int) := some (5, 0)
set_option maxHeartbeats 8000000 in
set_option maxRecDepth 100000 in
theorem r8_Minus.calls  (r1 : Int) (r2 : Int) (w : World) (h : r8_Minus.f  = some (r1, r2)) :
  Calls Tryz.prog 30 #[] w fun e w' => e = .returned (.agg #[.int .i64 r1, .int .i64 r2]) ∧ Below w.heap.size w w' := by
 have hu25 := Tryz.underlying25
 have HB := Sd.mk (Below.refl w.heap.size w)
 have H : (some (5, 0)) = some (r1, r2) := h
 clear h
 simp only [Option.some.injEq, Prod.mk.injEq] at H
 obtain ⟨rfl, rfl⟩ := H
 go_enter Tryz.func30, Tryz.ntmps30
 go_wp2_with (first | ((with_reducible refine gate_dst (N := 0) rfl ?_); refine box_event ?hg (N := 0) ?hd (cs := #[.int .i64 0, .int .i64 0]) (t := 25) ?hr ?_; (case hd => rfl); (case hg => rfl); (case hr => first | (go_simp; done) | (go_simp; rfl)); intro gb223 hg w1 hbox hb; have n0_ := Sd.mk (below_step (by exact blwF HB.out) hb); have n1_ := Sd.mk (hbox); have n2_ := Sd.mk ((by rw [hg]; exact (below_size (by exact blwF HB.out)) : w.heap.size ≤ gb223)); have n3_ := Sd.mk ((by rw [hg]; exact (below_size (by exact blwF HB.out)) : w.heap.size ≤ gb223)); clear HB; have HB := n0_; have BK223 := n1_; have GW223 := n2_; have GE223 := n3_; clear n0_ n1_ n2_ n3_; clear hb hbox hg; have hcz2_0 : w1.cell? ⟨gb223, 0, none⟩ = some (.int .i64 0) := (blk_cell BK223.out 0).trans rfl; have hcz2_1 : w1.cell? ⟨gb223, 1, none⟩ = some (.int .i64 0) := (blk_cell BK223.out 1).trans rfl; have hfz2_0 := blk_frozen BK223.out 0; have hfz2_1 := blk_frozen BK223.out 1))
 refine bodyPost_ret (results_cell_row rfl _ _ gb223 25 #[.int .i64 5, .int .i64 0] (0, 0) _ rfl (by (with_reducible repeat (first | refine blk_drewN ?_ _ | refine blk_drew ?_ | refine blk_alloc ?_ _)); refine blk_put (cs := #[.int .i64 5, .int .i64 0]) ?_ 1 _ rfl; (with_reducible repeat (first | refine blk_drewN ?_ _ | refine blk_drew ?_ | refine blk_alloc ?_ _)); refine blk_put (cs := #[.int .i64 0, .int .i64 0]) ?_ 0 _ rfl; (with_reducible repeat (first | refine blk_drewN ?_ _ | refine blk_drew ?_ | refine blk_alloc ?_ _)); exact BK223.out) Tryz.underlying25 rfl (by kernel_rfl)) rfl ?_
 exact ⟨by first | rfl | (simp [errW_none, errW_some] <;> rfl) | (simp [*, errW_none, errW_some] <;> rfl), by repeat (first | (with_reducible first | exact HB.out | apply bal | apply pbd | apply bd1 | refine bst ?_ GE223.out) | exact HB.out)⟩
def r8_Num.f (a0 : Int) : Option (Int × Int) := if a0 > 1000000000000000 then ((r8_Plus.f).bind fun bt225 => (some (bt225.1, bt225.2))) else (if a0 < (-1000000000000000) then ((r8_Minus.f).bind fun bt227 => (some (bt227.1, bt227.2))) else (some (1, a0)))
set_option maxHeartbeats 8000000 in
set_option maxRecDepth 100000 in
theorem r8_Num.calls (a0 : Int) (r1 : Int) (r2 : Int) (w : World) (h : r8_Num.f a0 = some (r1, r2)) :
  Calls Tryz.prog 20 #[.int .i64 a0] w fun e w' => e = .returned (.agg #[.int .i64 r1, .int .i64 r2]) ∧ Below w.heap.size w w' := by
 have hu25 := Tryz.underlying25
 have HB := Sd.mk (Below.refl w.heap.size w)
 have H : (if a0 > 1000000000000000 then ((r8_Plus.f).bind fun bt225 => (some (bt225.1, bt225.2))) else (if a0 < (-1000000000000000) then ((r8_Minus.f).bind fun bt227 => (some (bt227.1, bt227.2))) else (some (1, a0)))) = some (r1, r2) := h
 clear h
 by_cases c2 : a0 > 1000000000000000
 ·rw [if_pos c2] at H
  have c2b0 : decide (1000000000000000 < a0) = true := decide_eq_true c2
  clear c2
  replace H := Option.bind_eq_some_iff.mp H
  obtain ⟨⟨t225, t226⟩, A30, H⟩ := H
  replace H : (some (t225, t226)) = some (r1, r2) := H
  have A3 := Sd.mk A30
  clear A30
  simp only [Option.some.injEq, Prod.mk.injEq] at H
  obtain ⟨rfl, rfl⟩ := H
  go_enter Tryz.func20, Tryz.ntmps20
  go_wp2_with (first | ((with_reducible refine gate_dst (N := 2) rfl ?_); refine box_event ?hg (N := 2) ?hd (cs := #[.int .i64 0, .int .i64 0]) (t := 25) ?hr ?_; (case hd => rfl); (case hg => rfl); (case hr => first | (go_simp; done) | (go_simp; rfl)); intro gb224 hg w4 hbox hb; have n0_ := Sd.mk (below_step (by exact blwF HB.out) hb); have n1_ := Sd.mk (hbox); have n2_ := Sd.mk ((by rw [hg]; exact (below_size (by exact blwF HB.out)) : w.heap.size ≤ gb224)); have n3_ := Sd.mk ((by rw [hg]; exact (below_size (by exact blwF HB.out)) : w.heap.size ≤ gb224)); clear HB; have HB := n0_; have BK224 := n1_; have GW224 := n2_; have GE224 := n3_; clear n0_ n1_ n2_ n3_; clear hb hbox hg) | ((with_reducible refine gate_callee (f := 28) rfl ?_); refine goesL_ (some 5) rfl rfl Tryz.func28 (by kernel_rfl) rfl #[] rfl (by (try simp only [List.map_toArray, List.map_cons, List.map_nil]); first | done | rfl | (simp only [List.length_drop, List.length_take]; rfl)) ?_; (with_reducible refine (r8_Plus.calls  t225 t226 _ A3.out).mono ?_); rintro e w5 ⟨rfl, hb⟩; refine ⟨_, rfl, ?_⟩; have n0_ := Sd.mk (blk_below (g := gb224) (o := .cells #[.int .i64 0, .int .i64 0] 25 (0, 0)) (by exact blkF BK224.out) hb); have n1_ := Sd.mk (below_step (by repeat (first | (with_reducible first | exact HB.out | apply bal | apply pbd | apply bd1 | refine bst ?_ GE224.out) | exact HB.out)) hb); clear BK224; clear HB; have BK224 := n0_; have HB := n1_; clear n0_ n1_; (try clear hb); (try clear hb2); (try clear hk); (try clear hi); have hcz6_0 : w5.cell? ⟨gb224, 0, none⟩ = some (.int .i64 0) := (blk_cell BK224.out 0).trans rfl; have hcz6_1 : w5.cell? ⟨gb224, 1, none⟩ = some (.int .i64 0) := (blk_cell BK224.out 1).trans rfl; have hfz6_0 := blk_frozen BK224.out 0; have hfz6_1 := blk_frozen BK224.out 1))
  refine bodyPost_ret (results_cell_row rfl _ _ gb224 25 #[.int .i64 t225, .int .i64 t226] (0, 0) _ rfl (by (with_reducible repeat (first | refine blk_drewN ?_ _ | refine blk_drew ?_ | refine blk_alloc ?_ _)); refine blk_put (cs := #[.int .i64 t225, .int .i64 0]) ?_ 1 _ rfl; (with_reducible repeat (first | refine blk_drewN ?_ _ | refine blk_drew ?_ | refine blk_alloc ?_ _)); refine blk_put (cs := #[.int .i64 0, .int .i64 0]) ?_ 0 _ rfl; (with_reducible repeat (first | refine blk_drewN ?_ _ | refine blk_drew ?_ | refine blk_alloc ?_ _)); exact BK224.out) Tryz.underlying25 rfl (by kernel_rfl)) rfl ?_
  exact ⟨by first | rfl | (simp [errW_none, errW_some] <;> rfl) | (simp [*, errW_none, errW_some] <;> rfl), by repeat (first | (with_reducible first | exact HB.out | apply bal | apply pbd | apply bd1 | refine bst ?_ GE224.out) | exact HB.out)⟩
 ·rw [if_neg c2] at H
  have c2b0 : decide (1000000000000000 < a0) = false := decide_eq_false c2
  clear c2
  by_cases c7 : a0 < (-1000000000000000)
  ·rw [if_pos c7] at H
   have c7b0 : decide (a0 < (-1000000000000000)) = true := decide_eq_true c7
   clear c7
   replace H := Option.bind_eq_some_iff.mp H
   obtain ⟨⟨t227, t228⟩, A80, H⟩ := H
   replace H : (some (t227, t228)) = some (r1, r2) := H
   have A8 := Sd.mk A80
   clear A80
   simp only [Option.some.injEq, Prod.mk.injEq] at H
   obtain ⟨rfl, rfl⟩ := H
   go_enter Tryz.func20, Tryz.ntmps20
   go_wp2_with (first | ((with_reducible refine gate_dst (N := 2) rfl ?_); refine box_event ?hg (N := 2) ?hd (cs := #[.int .i64 0, .int .i64 0]) (t := 25) ?hr ?_; (case hd => rfl); (case hg => rfl); (case hr => first | (go_simp; done) | (go_simp; rfl)); intro gb224 hg w9 hbox hb; have n0_ := Sd.mk (below_step (by exact blwF HB.out) hb); have n1_ := Sd.mk (hbox); have n2_ := Sd.mk ((by rw [hg]; exact (below_size (by exact blwF HB.out)) : w.heap.size ≤ gb224)); have n3_ := Sd.mk ((by rw [hg]; exact (below_size (by exact blwF HB.out)) : w.heap.size ≤ gb224)); clear HB; have HB := n0_; have BK224 := n1_; have GW224 := n2_; have GE224 := n3_; clear n0_ n1_ n2_ n3_; clear hb hbox hg) | ((with_reducible refine gate_callee (f := 30) rfl ?_); refine goesL_ (some 8) rfl rfl Tryz.func30 (by kernel_rfl) rfl #[] rfl (by (try simp only [List.map_toArray, List.map_cons, List.map_nil]); first | done | rfl | (simp only [List.length_drop, List.length_take]; rfl)) ?_; (with_reducible refine (r8_Minus.calls  t227 t228 _ A8.out).mono ?_); rintro e w10 ⟨rfl, hb⟩; refine ⟨_, rfl, ?_⟩; have n0_ := Sd.mk (blk_below (g := gb224) (o := .cells #[.int .i64 0, .int .i64 0] 25 (0, 0)) (by exact blkF BK224.out) hb); have n1_ := Sd.mk (below_step (by repeat (first | (with_reducible first | exact HB.out | apply bal | apply pbd | apply bd1 | refine bst ?_ GE224.out) | exact HB.out)) hb); clear BK224; clear HB; have BK224 := n0_; have HB := n1_; clear n0_ n1_; (try clear hb); (try clear hb2); (try clear hk); (try clear hi); have hcz11_0 : w10.cell? ⟨gb224, 0, none⟩ = some (.int .i64 0) := (blk_cell BK224.out 0).trans rfl; have hcz11_1 : w10.cell? ⟨gb224, 1, none⟩ = some (.int .i64 0) := (blk_cell BK224.out 1).trans rfl; have hfz11_0 := blk_frozen BK224.out 0; have hfz11_1 := blk_frozen BK224.out 1))
   refine bodyPost_ret (results_cell_row rfl _ _ gb224 25 #[.int .i64 t227, .int .i64 t228] (0, 0) _ rfl (by (with_reducible repeat (first | refine blk_drewN ?_ _ | refine blk_drew ?_ | refine blk_alloc ?_ _)); refine blk_put (cs := #[.int .i64 t227, .int .i64 0]) ?_ 1 _ rfl; (with_reducible repeat (first | refine blk_drewN ?_ _ | refine blk_drew ?_ | refine blk_alloc ?_ _)); refine blk_put (cs := #[.int .i64 0, .int .i64 0]) ?_ 0 _ rfl; (with_reducible repeat (first | refine blk_drewN ?_ _ | refine blk_drew ?_ | refine blk_alloc ?_ _)); exact BK224.out) Tryz.underlying25 rfl (by kernel_rfl)) rfl ?_
   exact ⟨by first | rfl | (simp [errW_none, errW_some] <;> rfl) | (simp [*, errW_none, errW_some] <;> rfl), by repeat (first | (with_reducible first | exact HB.out | apply bal | apply pbd | apply bd1 | refine bst ?_ GE224.out) | exact HB.out)⟩
  ·rw [if_neg c7] at H
   have c7b0 : decide (a0 < (-1000000000000000)) = false := decide_eq_false c7
   clear c7
   simp only [Option.some.injEq, Prod.mk.injEq] at H
   obtain ⟨rfl, rfl⟩ := H
   go_enter Tryz.func20, Tryz.ntmps20
   go_wp2_with (first | ((with_reducible refine gate_dst (N := 2) rfl ?_); refine box_event ?hg (N := 2) ?hd (cs := #[.int .i64 0, .int .i64 0]) (t := 25) ?hr ?_; (case hd => rfl); (case hg => rfl); (case hr => first | (go_simp; done) | (go_simp; rfl)); intro gb224 hg w12 hbox hb; have n0_ := Sd.mk (below_step (by exact blwF HB.out) hb); have n1_ := Sd.mk (hbox); have n2_ := Sd.mk ((by rw [hg]; exact (below_size (by exact blwF HB.out)) : w.heap.size ≤ gb224)); have n3_ := Sd.mk ((by rw [hg]; exact (below_size (by exact blwF HB.out)) : w.heap.size ≤ gb224)); clear HB; have HB := n0_; have BK224 := n1_; have GW224 := n2_; have GE224 := n3_; clear n0_ n1_ n2_ n3_; clear hb hbox hg; have hcz13_0 : w12.cell? ⟨gb224, 0, none⟩ = some (.int .i64 0) := (blk_cell BK224.out 0).trans rfl; have hcz13_1 : w12.cell? ⟨gb224, 1, none⟩ = some (.int .i64 0) := (blk_cell BK224.out 1).trans rfl; have hfz13_0 := blk_frozen BK224.out 0; have hfz13_1 := blk_frozen BK224.out 1))
   refine bodyPost_ret (results_cell_row rfl _ _ gb224 25 #[.int .i64 1, .int .i64 a0] (0, 0) _ rfl (by (with_reducible repeat (first | refine blk_drewN ?_ _ | refine blk_drew ?_ | refine blk_alloc ?_ _)); refine blk_put (cs := #[.int .i64 1, .int .i64 0]) ?_ 1 _ rfl; (with_reducible repeat (first | refine blk_drewN ?_ _ | refine blk_drew ?_ | refine blk_alloc ?_ _)); refine blk_put (cs := #[.int .i64 0, .int .i64 0]) ?_ 0 _ rfl; (with_reducible repeat (first | refine blk_drewN ?_ _ | refine blk_drew ?_ | refine blk_alloc ?_ _)); exact BK224.out) Tryz.underlying25 rfl (by kernel_rfl)) rfl ?_
   exact ⟨by first | rfl | (simp [errW_none, errW_some] <;> rfl) | (simp [*, errW_none, errW_some] <;> rfl), by repeat (first | (with_reducible first | exact HB.out | apply bal | apply pbd | apply bd1 | refine bst ?_ GE224.out) | exact HB.out)⟩
def r8_Truth.f (a0 : Bool) : Option (Int × Int) := if a0 = true then ((r8_Num.f 1000).bind fun bt230 => (some (bt230.1, bt230.2))) else ((r8_Num.f 0).bind fun bt232 => (some (bt232.1, bt232.2)))
set_option maxHeartbeats 8000000 in
set_option maxRecDepth 100000 in
theorem r8_Truth.calls (a0 : Bool) (r1 : Int) (r2 : Int) (w : World) (h : r8_Truth.f a0 = some (r1, r2)) :
  Calls Tryz.prog 22 #[.bool a0] w fun e w' => e = .returned (.agg #[.int .i64 r1, .int .i64 r2]) ∧ Below w.heap.size w w' := by
 have hu25 := Tryz.underlying25
 have HB := Sd.mk (Below.refl w.heap.size w)
 have H : (if a0 = true then ((r8_Num.f 1000).bind fun bt230 => (some (bt230.1, bt230.2))) else ((r8_Num.f 0).bind fun bt232 => (some (bt232.1, bt232.2)))) = some (r1, r2) := h
 clear h
 by_cases c2 : a0 = true
 ·subst c2
  have H1 : ((r8_Num.f 1000).bind fun bt230 => (some (bt230.1, bt230.2))) = some (r1, r2) := by rw [if_pos rfl] at H; exact H
  clear H
  have H := H1
  clear H1
  replace H := Option.bind_eq_some_iff.mp H
  obtain ⟨⟨t230, t231⟩, A30, H⟩ := H
  replace H : (some (t230, t231)) = some (r1, r2) := H
  have A3 := Sd.mk A30
  clear A30
  simp only [Option.some.injEq, Prod.mk.injEq] at H
  obtain ⟨rfl, rfl⟩ := H
  go_enter Tryz.func22, Tryz.ntmps22
  go_wp2_with (first | ((with_reducible refine gate_dst (N := 2) rfl ?_); refine box_event ?hg (N := 2) ?hd (cs := #[.int .i64 0, .int .i64 0]) (t := 25) ?hr ?_; (case hd => rfl); (case hg => rfl); (case hr => first | (go_simp; done) | (go_simp; rfl)); intro gb229 hg w4 hbox hb; have n0_ := Sd.mk (below_step (by exact blwF HB.out) hb); have n1_ := Sd.mk (hbox); have n2_ := Sd.mk ((by rw [hg]; exact (below_size (by exact blwF HB.out)) : w.heap.size ≤ gb229)); have n3_ := Sd.mk ((by rw [hg]; exact (below_size (by exact blwF HB.out)) : w.heap.size ≤ gb229)); clear HB; have HB := n0_; have BK229 := n1_; have GW229 := n2_; have GE229 := n3_; clear n0_ n1_ n2_ n3_; clear hb hbox hg) | ((with_reducible refine gate_callee (f := 20) rfl ?_); refine goesL_ (some 4) rfl rfl Tryz.func20 (by kernel_rfl) rfl #[.int .i64 1000] rfl (by (try simp only [List.map_toArray, List.map_cons, List.map_nil]); first | done | rfl | (simp only [List.length_drop, List.length_take]; rfl)) ?_; (with_reducible refine (r8_Num.calls 1000 t230 t231 _ A3.out).mono ?_); rintro e w5 ⟨rfl, hb⟩; refine ⟨_, rfl, ?_⟩; have n0_ := Sd.mk (blk_below (g := gb229) (o := .cells #[.int .i64 0, .int .i64 0] 25 (0, 0)) (by exact blkF BK229.out) hb); have n1_ := Sd.mk (below_step (by repeat (first | (with_reducible first | exact HB.out | apply bal | apply pbd | apply bd1 | refine bst ?_ GE229.out) | exact HB.out)) hb); clear BK229; clear HB; have BK229 := n0_; have HB := n1_; clear n0_ n1_; (try clear hb); (try clear hb2); (try clear hk); (try clear hi); have hcz6_0 : w5.cell? ⟨gb229, 0, none⟩ = some (.int .i64 0) := (blk_cell BK229.out 0).trans rfl; have hcz6_1 : w5.cell? ⟨gb229, 1, none⟩ = some (.int .i64 0) := (blk_cell BK229.out 1).trans rfl; have hfz6_0 := blk_frozen BK229.out 0; have hfz6_1 := blk_frozen BK229.out 1))
  refine bodyPost_ret (results_cell_row rfl _ _ gb229 25 #[.int .i64 t230, .int .i64 t231] (0, 0) _ rfl (by (with_reducible repeat (first | refine blk_drewN ?_ _ | refine blk_drew ?_ | refine blk_alloc ?_ _)); refine blk_put (cs := #[.int .i64 t230, .int .i64 0]) ?_ 1 _ rfl; (with_reducible repeat (first | refine blk_drewN ?_ _ | refine blk_drew ?_ | refine blk_alloc ?_ _)); refine blk_put (cs := #[.int .i64 0, .int .i64 0]) ?_ 0 _ rfl; (with_reducible repeat (first | refine blk_drewN ?_ _ | refine blk_drew ?_ | refine blk_alloc ?_ _)); exact BK229.out) Tryz.underlying25 rfl (by kernel_rfl)) rfl ?_
  exact ⟨by first | rfl | (simp [errW_none, errW_some] <;> rfl) | (simp [*, errW_none, errW_some] <;> rfl), by repeat (first | (with_reducible first | exact HB.out | apply bal | apply pbd | apply bd1 | refine bst ?_ GE229.out) | exact HB.out)⟩
 ·replace c2 := Bool.eq_false_iff.mpr c2
  subst c2
  have H1 : ((r8_Num.f 0).bind fun bt232 => (some (bt232.1, bt232.2))) = some (r1, r2) := by rw [if_neg (show ¬ (false = true) by decide)] at H; exact H
  clear H
  have H := H1
  clear H1
  replace H := Option.bind_eq_some_iff.mp H
  obtain ⟨⟨t232, t233⟩, A70, H⟩ := H
  replace H : (some (t232, t233)) = some (r1, r2) := H
  have A7 := Sd.mk A70
  clear A70
  simp only [Option.some.injEq, Prod.mk.injEq] at H
  obtain ⟨rfl, rfl⟩ := H
  go_enter Tryz.func22, Tryz.ntmps22
  go_wp2_with (first | ((with_reducible refine gate_dst (N := 2) rfl ?_); refine box_event ?hg (N := 2) ?hd (cs := #[.int .i64 0, .int .i64 0]) (t := 25) ?hr ?_; (case hd => rfl); (case hg => rfl); (case hr => first | (go_simp; done) | (go_simp; rfl)); intro gb229 hg w8 hbox hb; have n0_ := Sd.mk (below_step (by exact blwF HB.out) hb); have n1_ := Sd.mk (hbox); have n2_ := Sd.mk ((by rw [hg]; exact (below_size (by exact blwF HB.out)) : w.heap.size ≤ gb229)); have n3_ := Sd.mk ((by rw [hg]; exact (below_size (by exact blwF HB.out)) : w.heap.size ≤ gb229)); clear HB; have HB := n0_; have BK229 := n1_; have GW229 := n2_; have GE229 := n3_; clear n0_ n1_ n2_ n3_; clear hb hbox hg) | ((with_reducible refine gate_callee (f := 20) rfl ?_); refine goesL_ (some 5) rfl rfl Tryz.func20 (by kernel_rfl) rfl #[.int .i64 0] rfl (by (try simp only [List.map_toArray, List.map_cons, List.map_nil]); first | done | rfl | (simp only [List.length_drop, List.length_take]; rfl)) ?_; (with_reducible refine (r8_Num.calls 0 t232 t233 _ A7.out).mono ?_); rintro e w9 ⟨rfl, hb⟩; refine ⟨_, rfl, ?_⟩; have n0_ := Sd.mk (blk_below (g := gb229) (o := .cells #[.int .i64 0, .int .i64 0] 25 (0, 0)) (by exact blkF BK229.out) hb); have n1_ := Sd.mk (below_step (by repeat (first | (with_reducible first | exact HB.out | apply bal | apply pbd | apply bd1 | refine bst ?_ GE229.out) | exact HB.out)) hb); clear BK229; clear HB; have BK229 := n0_; have HB := n1_; clear n0_ n1_; (try clear hb); (try clear hb2); (try clear hk); (try clear hi); have hcz10_0 : w9.cell? ⟨gb229, 0, none⟩ = some (.int .i64 0) := (blk_cell BK229.out 0).trans rfl; have hcz10_1 : w9.cell? ⟨gb229, 1, none⟩ = some (.int .i64 0) := (blk_cell BK229.out 1).trans rfl; have hfz10_0 := blk_frozen BK229.out 0; have hfz10_1 := blk_frozen BK229.out 1))
  refine bodyPost_ret (results_cell_row rfl _ _ gb229 25 #[.int .i64 t232, .int .i64 t233] (0, 0) _ rfl (by (with_reducible repeat (first | refine blk_drewN ?_ _ | refine blk_drew ?_ | refine blk_alloc ?_ _)); refine blk_put (cs := #[.int .i64 t232, .int .i64 0]) ?_ 1 _ rfl; (with_reducible repeat (first | refine blk_drewN ?_ _ | refine blk_drew ?_ | refine blk_alloc ?_ _)); refine blk_put (cs := #[.int .i64 0, .int .i64 0]) ?_ 0 _ rfl; (with_reducible repeat (first | refine blk_drewN ?_ _ | refine blk_drew ?_ | refine blk_alloc ?_ _)); exact BK229.out) Tryz.underlying25 rfl (by kernel_rfl)) rfl ?_
  exact ⟨by first | rfl | (simp [errW_none, errW_some] <;> rfl) | (simp [*, errW_none, errW_some] <;> rfl), by repeat (first | (with_reducible first | exact HB.out | apply bal | apply pbd | apply bd1 | refine bst ?_ GE229.out) | exact HB.out)⟩
def r8_num.f (a0_0 : Int) (a0_1 : Int) : Option (Bool) := some (a0_0 == 1)
set_option maxHeartbeats 8000000 in
set_option maxRecDepth 100000 in
theorem r8_num.calls (a0_0 : Int) (a0_1 : Int) (r : Bool) (w : World) (h : r8_num.f a0_0 a0_1 = some r) :
  Calls Tryz.prog 48 #[.agg #[.int .i64 a0_0, .int .i64 a0_1]] w fun e w' => e = .returned (.bool r) ∧ Below w.heap.size w w' := by
 have hu25 := Tryz.underlying25
 have HB := Sd.mk (Below.refl w.heap.size w)
 have H : (some (a0_0 == 1)) = some r := h
 clear h
 obtain rfl := Option.some.inj H
 go_enter Tryz.func48, Tryz.ntmps48
 go_wp2_with (first | ((with_reducible refine gate_dst (N := 1) rfl ?_); refine box_event ?hg (N := 1) ?hd (cs := #[.int .i64 a0_0, .int .i64 a0_1]) (t := 25) ?hr ?_; (case hd => rfl); (case hg => rfl); (case hr => first | (go_simp; done) | (go_simp; rfl)); intro gb234 hg w2 hbox hb; have n0_ := Sd.mk (below_step (by exact blwF HB.out) hb); have n1_ := Sd.mk (hbox); have n2_ := Sd.mk ((by rw [hg]; exact (below_size (by exact blwF HB.out)) : w.heap.size ≤ gb234)); have n3_ := Sd.mk ((by rw [hg]; exact (below_size (by exact blwF HB.out)) : w.heap.size ≤ gb234)); clear HB; have HB := n0_; have BK234 := n1_; have GW234 := n2_; have GE234 := n3_; clear n0_ n1_ n2_ n3_; clear hb hbox hg; have hcz3_0 : w2.cell? ⟨gb234, 0, none⟩ = some (.int .i64 a0_0) := (blk_cell BK234.out 0).trans rfl; have hcz3_1 : w2.cell? ⟨gb234, 1, none⟩ = some (.int .i64 a0_1) := (blk_cell BK234.out 1).trans rfl; have hfz3_0 := blk_frozen BK234.out 0; have hfz3_1 := blk_frozen BK234.out 1))
 go_ret
 exact ⟨by first | rfl | (simp [errW_none, errW_some] <;> rfl) | (simp [*, errW_none, errW_some] <;> rfl), by repeat (first | (with_reducible first | exact HB.out | apply bal | apply pbd | apply bd1 | refine bst ?_ GE234.out) | exact HB.out)⟩
def r8_sign.j0 : Nat → Bool → Int → Int → Option (Int)
 | 0, _, _, _ => none
 | k + 1, x3, x236000, x236001 => if x3 = true then (some 1) else (if x236000 = 5 then (some (-1)) else (if x236001 < 0 then (some (-1)) else (some 0)))
def r8_sign.f (k : Nat) (a0_0 : Int) (a0_1 : Int) : Option (Int) := if a0_0 = 4 then (r8_sign.j0 k true a0_0 a0_1) else (r8_sign.j0 k (decide (a0_1 > 0)) a0_0 a0_1)
theorem r8_sign.mono_l : ∀ k, (∀ y0 y1 y2, LeO (r8_sign.j0 k y0 y1 y2) (r8_sign.j0 (k + 1) y0 y1 y2))
 | 0 => fun _ _ _ r h => by simp [r8_sign.j0] at h
 | k + 1 => by
  have ih0 := r8_sign.mono_l k
  ·intro y0 y1 y2
   unfold r8_sign.j0
   repeat' first
   | (with_reducible exact ih0 _ _ _)
   | (with_reducible exact LeO.refl _)
   | (with_reducible exact LeO.none _)
   | (with_reducible refine LeO.ite ?_ ?_)
   | (with_reducible refine LeO.bind ?_ (fun _ => ?_))
   | exact ih0 _ _ _
   | exact LeO.none _
   | refine LeO.ite ?_ ?_
   | refine LeO.bind ?_ (fun _ => ?_)
theorem r8_sign.mono : ∀ a0 a1 k, LeO (r8_sign.f k a0 a1) (r8_sign.f (k + 1) a0 a1) := by
 intro a0 a1 k
 have ih0 := r8_sign.mono_l k
 unfold r8_sign.f
 repeat' first
   | (with_reducible exact ih0 _ _ _)
   | (with_reducible exact LeO.refl _)
   | (with_reducible exact LeO.none _)
   | (with_reducible refine LeO.ite ?_ ?_)
   | (with_reducible refine LeO.bind ?_ (fun _ => ?_))
   | exact ih0 _ _ _
   | exact LeO.none _
   | refine LeO.ite ?_ ?_
   | refine LeO.bind ?_ (fun _ => ?_)
set_option maxHeartbeats 8000000 in
set_option maxRecDepth 100000 in
theorem r8_sign.calls (k : Nat) (a0_0 : Int) (a0_1 : Int) (r : Int) (w : World) (h : r8_sign.f k a0_0 a0_1 = some r) :
  Calls Tryz.prog 75 #[.agg #[.int .i64 a0_0, .int .i64 a0_1]] w fun e w' => e = .returned (.int .i64 r) ∧ Below w.heap.size w w' := by
 have hu25 := Tryz.underlying25
 have HB := Sd.mk (Below.refl w.heap.size w)
 have H : (if a0_0 = 4 then (r8_sign.j0 k true a0_0 a0_1) else (r8_sign.j0 k (decide (a0_1 > 0)) a0_0 a0_1)) = some r := h
 clear h
 have HC2 := Sd.mk H
 clear H
 go_enter Tryz.func75, Tryz.ntmps75
 go_upto_region 1 with (first | ((with_reducible refine gate_dst (N := 1) rfl ?_); refine box_event ?hg (N := 1) ?hd (cs := #[.int .i64 a0_0, .int .i64 a0_1]) (t := 25) ?hr ?_; (case hd => rfl); (case hg => rfl); (case hr => first | (go_simp; done) | (go_simp; rfl)); intro gb235 hg w3 hbox hb; have n0_ := Sd.mk (below_step (by exact blwF HB.out) hb); have n1_ := Sd.mk (hbox); have n2_ := Sd.mk ((by rw [hg]; exact (below_size (by exact blwF HB.out)) : w.heap.size ≤ gb235)); have n3_ := Sd.mk ((by rw [hg]; exact (below_size (by exact blwF HB.out)) : w.heap.size ≤ gb235)); clear HB; have HB := n0_; have BK235 := n1_; have GW235 := n2_; have GE235 := n3_; clear n0_ n1_ n2_ n3_; clear hb hbox hg))
 (try simp only [Act.put, List.setIfInBounds_toArray, List.set_cons_zero, List.set_cons_succ])
 go_cut [3] (fun v3 wc => ∃ (kq : Nat) (x3_1 : Bool), v3 = .bool x3_1 ∧ Sd (r8_sign.j0 kq x3_1 a0_0 a0_1 = some r) ∧ Sd (kq ≤ k) ∧ Sd (wc.heap[gb235]? = some (.cells #[.int .i64 a0_0, .int .i64 a0_1] 25 (0, 0))) ∧ Sd (Below w.heap.size w wc))
 case first =>
  have H := HC2.out
  clear HC2
  by_cases c4 : a0_0 = 4
  ·rw [if_pos c4] at H
   have c4b0 : (a0_0 == 4) = true := beq_iff_eq.mpr c4
   have c4b1 : (a0_0 != 4) = false := bne_eq_false_iff_eq.mpr c4
   clear c4
   (first | rw [c4b0] | (simp only [i64_w, i32_w]; rw [c4b0]) | skip)
   have H' := Sd.mk H
   clear H
   have hcz5_0 : w3.cell? ⟨gb235, 0, none⟩ = some (.int .i64 a0_0) := (blk_cell BK235.out 0).trans rfl
   have hcz5_1 : w3.cell? ⟨gb235, 1, none⟩ = some (.int .i64 a0_1) := (blk_cell BK235.out 1).trans rfl
   have hfz5_0 := blk_frozen BK235.out 0
   have hfz5_1 := blk_frozen BK235.out 1
   go_wp2
   go_meet
   case rel => exact ⟨_, (true), (by first | rfl | (simp; done) | (simp [*]; done)), H', ⟨by first | omega | exact Nat.le_refl _⟩, ⟨by (with_reducible repeat (first | refine blk_drewN ?_ _ | refine blk_drew ?_ | refine blk_alloc ?_ _)); exact BK235.out⟩, ⟨by repeat (first | (with_reducible first | exact HB.out | apply bal | apply pbd | apply bd1 | refine bst ?_ GE235.out) | exact HB.out)⟩⟩
  ·rw [if_neg c4] at H
   have c4b0 : (a0_0 == 4) = false := beq_eq_false_iff_ne.mpr c4
   have c4b1 : (a0_0 != 4) = true := bne_iff_ne.mpr c4
   (first | rw [c4b0] | (simp only [i64_w, i32_w]; rw [c4b0]) | skip)
   have H' := Sd.mk H
   clear H
   have hcz6_0 : w3.cell? ⟨gb235, 0, none⟩ = some (.int .i64 a0_0) := (blk_cell BK235.out 0).trans rfl
   have hcz6_1 : w3.cell? ⟨gb235, 1, none⟩ = some (.int .i64 a0_1) := (blk_cell BK235.out 1).trans rfl
   have hfz6_0 := blk_frozen BK235.out 0
   have hfz6_1 := blk_frozen BK235.out 1
   go_wp2
   go_meet
   case rel => exact ⟨_, (decide (a0_1 > 0)), (by first | rfl | (simp; done) | (simp [*]; done)), H', ⟨by first | omega | exact Nat.le_refl _⟩, ⟨by (with_reducible repeat (first | refine blk_drewN ?_ _ | refine blk_drew ?_ | refine blk_alloc ?_ _)); exact BK235.out⟩, ⟨by repeat (first | (with_reducible first | exact HB.out | apply bal | apply pbd | apply bd1 | refine bst ?_ GE235.out) | exact HB.out)⟩⟩
 case rest =>
  clear HC2
  try clear p2
  try clear c4
  try clear c4b0
  try clear c4b1
  try clear hcz5_0
  try clear hcz5_1
  try clear hcz6_0
  try clear hcz6_1
  try clear hfz5_0
  try clear hfz5_1
  try clear hfz6_0
  try clear hfz6_1
  obtain ⟨kq, x3_1, rfl, HA, HJ1, BK235, HB⟩ := hcut
  cases kq with
  | zero => exact absurd HA.out (by simp [r8_sign.j0])
  | succ kj1 =>
   have H := HA.out
   clear HA
   simp only [r8_sign.j0] at H
   by_cases c7 : x3_1 = true
   ·subst c7
    have H1 : (some 1) = some r := by rw [if_pos rfl] at H; exact H
    clear H
    have H := H1
    clear H1
    obtain rfl := Option.some.inj H
    go_wp2
    go_ret
    exact ⟨by first | rfl | (simp [errW_none, errW_some] <;> rfl) | (simp [*, errW_none, errW_some] <;> rfl), by repeat (first | (with_reducible first | exact HB.out | apply bal | apply pbd | apply bd1 | refine bst ?_ GE235.out) | exact HB.out)⟩
   ·replace c7 := Bool.eq_false_iff.mpr c7
    subst c7
    have H1 : (if a0_0 = 5 then (some (-1)) else (if a0_1 < 0 then (some (-1)) else (some 0))) = some r := by rw [if_neg (show ¬ (false = true) by decide)] at H; exact H
    clear H
    have H := H1
    clear H1
    by_cases c8 : a0_0 = 5
    ·rw [if_pos c8] at H
     have c8b0 : (a0_0 == 5) = true := beq_iff_eq.mpr c8
     have c8b1 : (a0_0 != 5) = false := bne_eq_false_iff_eq.mpr c8
     clear c8
     obtain rfl := Option.some.inj H
     have hcz9_0 : wc.cell? ⟨gb235, 0, none⟩ = some (.int .i64 a0_0) := (blk_cell BK235.out 0).trans rfl
     have hcz9_1 : wc.cell? ⟨gb235, 1, none⟩ = some (.int .i64 a0_1) := (blk_cell BK235.out 1).trans rfl
     have hfz9_0 := blk_frozen BK235.out 0
     have hfz9_1 := blk_frozen BK235.out 1
     go_wp2
     go_ret
     exact ⟨by first | rfl | (simp [errW_none, errW_some] <;> rfl) | (simp [*, errW_none, errW_some] <;> rfl), by repeat (first | (with_reducible first | exact HB.out | apply bal | apply pbd | apply bd1 | refine bst ?_ GE235.out) | exact HB.out)⟩
    ·rw [if_neg c8] at H
     have c8b0 : (a0_0 == 5) = false := beq_eq_false_iff_ne.mpr c8
     have c8b1 : (a0_0 != 5) = true := bne_iff_ne.mpr c8
     by_cases c10 : a0_1 < 0
     ·rw [if_pos c10] at H
      have c10b0 : decide (a0_1 < 0) = true := decide_eq_true c10
      clear c10
      obtain rfl := Option.some.inj H
      have hcz11_0 : wc.cell? ⟨gb235, 0, none⟩ = some (.int .i64 a0_0) := (blk_cell BK235.out 0).trans rfl
      have hcz11_1 : wc.cell? ⟨gb235, 1, none⟩ = some (.int .i64 a0_1) := (blk_cell BK235.out 1).trans rfl
      have hfz11_0 := blk_frozen BK235.out 0
      have hfz11_1 := blk_frozen BK235.out 1
      go_wp2
      go_ret
      exact ⟨by first | rfl | (simp [errW_none, errW_some] <;> rfl) | (simp [*, errW_none, errW_some] <;> rfl), by repeat (first | (with_reducible first | exact HB.out | apply bal | apply pbd | apply bd1 | refine bst ?_ GE235.out) | exact HB.out)⟩
     ·rw [if_neg c10] at H
      have c10b0 : decide (a0_1 < 0) = false := decide_eq_false c10
      clear c10
      obtain rfl := Option.some.inj H
      have hcz12_0 : wc.cell? ⟨gb235, 0, none⟩ = some (.int .i64 a0_0) := (blk_cell BK235.out 0).trans rfl
      have hcz12_1 : wc.cell? ⟨gb235, 1, none⟩ = some (.int .i64 a0_1) := (blk_cell BK235.out 1).trans rfl
      have hfz12_0 := blk_frozen BK235.out 0
      have hfz12_1 := blk_frozen BK235.out 1
      go_wp2
      go_ret
      exact ⟨by first | rfl | (simp [errW_none, errW_some] <;> rfl) | (simp [*, errW_none, errW_some] <;> rfl), by repeat (first | (with_reducible first | exact HB.out | apply bal | apply pbd | apply bd1 | refine bst ?_ GE235.out) | exact HB.out)⟩
def r8_turned.f (a0_0 : Int) (a0_1 : Int) : Option (Int × Int) := if a0_0 = 4 then ((r8_Minus.f).bind fun bt238 => (some (bt238.1, bt238.2))) else (if a0_0 = 5 then ((r8_Plus.f).bind fun bt240 => (some (bt240.1, bt240.2))) else (some (a0_0, wrap64 (-a0_1))))
set_option maxHeartbeats 8000000 in
set_option maxRecDepth 100000 in
theorem r8_turned.calls (a0_0 : Int) (a0_1 : Int) (r1 : Int) (r2 : Int) (w : World) (h : r8_turned.f a0_0 a0_1 = some (r1, r2)) :
  Calls Tryz.prog 76 #[.agg #[.int .i64 a0_0, .int .i64 a0_1]] w fun e w' => e = .returned (.agg #[.int .i64 r1, .int .i64 r2]) ∧ Below w.heap.size w w' := by
 have hu25 := Tryz.underlying25
 have HB := Sd.mk (Below.refl w.heap.size w)
 have H : (if a0_0 = 4 then ((r8_Minus.f).bind fun bt238 => (some (bt238.1, bt238.2))) else (if a0_0 = 5 then ((r8_Plus.f).bind fun bt240 => (some (bt240.1, bt240.2))) else (some (a0_0, wrap64 (-a0_1))))) = some (r1, r2) := h
 clear h
 by_cases c2 : a0_0 = 4
 ·rw [if_pos c2] at H
  have c2b0 : (a0_0 == 4) = true := beq_iff_eq.mpr c2
  have c2b1 : (a0_0 != 4) = false := bne_eq_false_iff_eq.mpr c2
  clear c2
  replace H := Option.bind_eq_some_iff.mp H
  obtain ⟨⟨t238, t239⟩, A30, H⟩ := H
  replace H : (some (t238, t239)) = some (r1, r2) := H
  have A3 := Sd.mk A30
  clear A30
  simp only [Option.some.injEq, Prod.mk.injEq] at H
  obtain ⟨rfl, rfl⟩ := H
  go_enter Tryz.func76, Tryz.ntmps76
  go_wp2_with (first | ((with_reducible refine gate_dst (N := 1) rfl ?_); refine box_event ?hg (N := 1) ?hd (cs := #[.int .i64 a0_0, .int .i64 a0_1]) (t := 25) ?hr ?_; (case hd => rfl); (case hg => rfl); (case hr => first | (go_simp; done) | (go_simp; rfl)); intro gb236 hg w4 hbox hb; have n0_ := Sd.mk (below_step (by exact blwF HB.out) hb); have n1_ := Sd.mk (hbox); have n2_ := Sd.mk ((by rw [hg]; exact (below_size (by exact blwF HB.out)) : w.heap.size ≤ gb236)); have n3_ := Sd.mk ((by rw [hg]; exact (below_size (by exact blwF HB.out)) : w.heap.size ≤ gb236)); clear HB; have HB := n0_; have BK236 := n1_; have GW236 := n2_; have GE236 := n3_; clear n0_ n1_ n2_ n3_; clear hb hbox hg) | ((with_reducible refine gate_dst (N := 2) rfl ?_); refine box_event ?hg (N := 2) ?hd (cs := #[.int .i64 0, .int .i64 0]) (t := 25) ?hr ?_; (case hd => rfl); (case hg => rfl); (case hr => first | (go_simp; done) | (go_simp; rfl)); intro gb237 hg w5 hbox hb; have n0_ := Sd.mk (blk_below (g := gb236) (o := .cells #[.int .i64 a0_0, .int .i64 a0_1] 25 (0, 0)) (by exact blkF BK236.out) hb); have n1_ := Sd.mk (below_step (by repeat (first | (with_reducible first | exact HB.out | apply bal | apply pbd | apply bd1 | refine bst ?_ GE236.out) | exact HB.out)) hb); have n2_ := Sd.mk (hbox); have n3_ := Sd.mk ((by rw [hg]; exact (below_size (by repeat (first | (with_reducible first | exact HB.out | apply bal | apply pbd | apply bd1 | refine bst ?_ GE236.out) | exact HB.out))) : w.heap.size ≤ gb237)); have n4_ := Sd.mk ((by rw [hg]; exact (below_size (by repeat (first | (with_reducible first | exact HB.out | apply bal | apply pbd | apply bd1 | refine bst ?_ GE236.out) | exact HB.out))) : w.heap.size ≤ gb237)); have n5_ := Sd.mk ((by rw [hg]; exact Nat.ne_of_lt (blk_lt (g := gb236) (o := .cells #[.int .i64 a0_0, .int .i64 a0_1] 25 (0, 0)) (by exact blkF BK236.out)) : gb236 ≠ gb237)); have n6_ := Sd.mk ((by rw [hg]; exact Nat.ne_of_gt (blk_lt (g := gb236) (o := .cells #[.int .i64 a0_0, .int .i64 a0_1] 25 (0, 0)) (by exact blkF BK236.out)) : gb237 ≠ gb236)); clear BK236; clear HB; have BK236 := n0_; have HB := n1_; have BK237 := n2_; have GW237 := n3_; have GE237 := n4_; have NB236_237 := n5_; have NB237_236 := n6_; clear n0_ n1_ n2_ n3_ n4_ n5_ n6_; clear hb hbox hg; have hnb6 := NB236_237.out; have hnc6 := NB237_236.out; have hcz7_0 : w5.cell? ⟨gb236, 0, none⟩ = some (.int .i64 a0_0) := (blk_cell BK236.out 0).trans rfl; have hcz7_1 : w5.cell? ⟨gb236, 1, none⟩ = some (.int .i64 a0_1) := (blk_cell BK236.out 1).trans rfl; have hfz7_0 := blk_frozen BK236.out 0; have hfz7_1 := blk_frozen BK236.out 1) | ((with_reducible refine gate_callee (f := 30) rfl ?_); refine goesL_ (some 7) rfl rfl Tryz.func30 (by kernel_rfl) rfl #[] rfl (by (try simp only [List.map_toArray, List.map_cons, List.map_nil]); first | done | rfl | (simp only [List.length_drop, List.length_take]; rfl)) ?_; (with_reducible refine (r8_Minus.calls  t238 t239 _ A3.out).mono ?_); rintro e w8 ⟨rfl, hb⟩; refine ⟨_, rfl, ?_⟩; have n0_ := Sd.mk (blk_below (g := gb236) (o := .cells #[.int .i64 a0_0, .int .i64 a0_1] 25 (0, 0)) (by exact blkF BK236.out) hb); have n1_ := Sd.mk (blk_below (g := gb237) (o := .cells #[.int .i64 0, .int .i64 0] 25 (0, 0)) (by exact blkF BK237.out) hb); have n2_ := Sd.mk (below_step (by repeat (first | (with_reducible first | exact HB.out | apply bal | apply pbd | apply bd1 | refine bst ?_ GE236.out | refine bst ?_ GE237.out) | exact HB.out)) hb); clear BK236; clear BK237; clear HB; have BK236 := n0_; have BK237 := n1_; have HB := n2_; clear n0_ n1_ n2_; (try clear hb); (try clear hb2); (try clear hk); (try clear hi); have hcz9_0 : w8.cell? ⟨gb237, 0, none⟩ = some (.int .i64 0) := (blk_cell BK237.out 0).trans rfl; have hcz9_1 : w8.cell? ⟨gb237, 1, none⟩ = some (.int .i64 0) := (blk_cell BK237.out 1).trans rfl; have hfz9_0 := blk_frozen BK237.out 0; have hfz9_1 := blk_frozen BK237.out 1))
  refine bodyPost_ret (results_cell_row rfl _ _ gb237 25 #[.int .i64 t238, .int .i64 t239] (0, 0) _ rfl (by (with_reducible repeat (first | refine blk_drewN ?_ _ | refine blk_drew ?_ | refine blk_alloc ?_ _)); refine blk_put (cs := #[.int .i64 t238, .int .i64 0]) ?_ 1 _ rfl; (with_reducible repeat (first | refine blk_drewN ?_ _ | refine blk_drew ?_ | refine blk_alloc ?_ _)); refine blk_put (cs := #[.int .i64 0, .int .i64 0]) ?_ 0 _ rfl; (with_reducible repeat (first | refine blk_drewN ?_ _ | refine blk_drew ?_ | refine blk_alloc ?_ _)); exact BK237.out) Tryz.underlying25 rfl (by kernel_rfl)) rfl ?_
  exact ⟨by first | rfl | (simp [errW_none, errW_some] <;> rfl) | (simp [*, errW_none, errW_some] <;> rfl), by repeat (first | (with_reducible first | exact HB.out | apply bal | apply pbd | apply bd1 | refine bst ?_ GE236.out | refine bst ?_ GE237.out) | exact HB.out)⟩
 ·rw [if_neg c2] at H
  have c2b0 : (a0_0 == 4) = false := beq_eq_false_iff_ne.mpr c2
  have c2b1 : (a0_0 != 4) = true := bne_iff_ne.mpr c2
  by_cases c10 : a0_0 = 5
  ·rw [if_pos c10] at H
   have c10b0 : (a0_0 == 5) = true := beq_iff_eq.mpr c10
   have c10b1 : (a0_0 != 5) = false := bne_eq_false_iff_eq.mpr c10
   clear c10
   replace H := Option.bind_eq_some_iff.mp H
   obtain ⟨⟨t240, t241⟩, A110, H⟩ := H
   replace H : (some (t240, t241)) = some (r1, r2) := H
   have A11 := Sd.mk A110
   clear A110
   simp only [Option.some.injEq, Prod.mk.injEq] at H
   obtain ⟨rfl, rfl⟩ := H
   go_enter Tryz.func76, Tryz.ntmps76
   go_wp2_with (first | ((with_reducible refine gate_dst (N := 1) rfl ?_); refine box_event ?hg (N := 1) ?hd (cs := #[.int .i64 a0_0, .int .i64 a0_1]) (t := 25) ?hr ?_; (case hd => rfl); (case hg => rfl); (case hr => first | (go_simp; done) | (go_simp; rfl)); intro gb236 hg w12 hbox hb; have n0_ := Sd.mk (below_step (by exact blwF HB.out) hb); have n1_ := Sd.mk (hbox); have n2_ := Sd.mk ((by rw [hg]; exact (below_size (by exact blwF HB.out)) : w.heap.size ≤ gb236)); have n3_ := Sd.mk ((by rw [hg]; exact (below_size (by exact blwF HB.out)) : w.heap.size ≤ gb236)); clear HB; have HB := n0_; have BK236 := n1_; have GW236 := n2_; have GE236 := n3_; clear n0_ n1_ n2_ n3_; clear hb hbox hg) | ((with_reducible refine gate_dst (N := 2) rfl ?_); refine box_event ?hg (N := 2) ?hd (cs := #[.int .i64 0, .int .i64 0]) (t := 25) ?hr ?_; (case hd => rfl); (case hg => rfl); (case hr => first | (go_simp; done) | (go_simp; rfl)); intro gb237 hg w13 hbox hb; have n0_ := Sd.mk (blk_below (g := gb236) (o := .cells #[.int .i64 a0_0, .int .i64 a0_1] 25 (0, 0)) (by exact blkF BK236.out) hb); have n1_ := Sd.mk (below_step (by repeat (first | (with_reducible first | exact HB.out | apply bal | apply pbd | apply bd1 | refine bst ?_ GE236.out) | exact HB.out)) hb); have n2_ := Sd.mk (hbox); have n3_ := Sd.mk ((by rw [hg]; exact (below_size (by repeat (first | (with_reducible first | exact HB.out | apply bal | apply pbd | apply bd1 | refine bst ?_ GE236.out) | exact HB.out))) : w.heap.size ≤ gb237)); have n4_ := Sd.mk ((by rw [hg]; exact (below_size (by repeat (first | (with_reducible first | exact HB.out | apply bal | apply pbd | apply bd1 | refine bst ?_ GE236.out) | exact HB.out))) : w.heap.size ≤ gb237)); have n5_ := Sd.mk ((by rw [hg]; exact Nat.ne_of_lt (blk_lt (g := gb236) (o := .cells #[.int .i64 a0_0, .int .i64 a0_1] 25 (0, 0)) (by exact blkF BK236.out)) : gb236 ≠ gb237)); have n6_ := Sd.mk ((by rw [hg]; exact Nat.ne_of_gt (blk_lt (g := gb236) (o := .cells #[.int .i64 a0_0, .int .i64 a0_1] 25 (0, 0)) (by exact blkF BK236.out)) : gb237 ≠ gb236)); clear BK236; clear HB; have BK236 := n0_; have HB := n1_; have BK237 := n2_; have GW237 := n3_; have GE237 := n4_; have NB236_237 := n5_; have NB237_236 := n6_; clear n0_ n1_ n2_ n3_ n4_ n5_ n6_; clear hb hbox hg; have hnb14 := NB236_237.out; have hnc14 := NB237_236.out; have hcz15_0 : w13.cell? ⟨gb236, 0, none⟩ = some (.int .i64 a0_0) := (blk_cell BK236.out 0).trans rfl; have hcz15_1 : w13.cell? ⟨gb236, 1, none⟩ = some (.int .i64 a0_1) := (blk_cell BK236.out 1).trans rfl; have hfz15_0 := blk_frozen BK236.out 0; have hfz15_1 := blk_frozen BK236.out 1) | ((with_reducible refine gate_callee (f := 28) rfl ?_); refine goesL_ (some 10) rfl rfl Tryz.func28 (by kernel_rfl) rfl #[] rfl (by (try simp only [List.map_toArray, List.map_cons, List.map_nil]); first | done | rfl | (simp only [List.length_drop, List.length_take]; rfl)) ?_; (with_reducible refine (r8_Plus.calls  t240 t241 _ A11.out).mono ?_); rintro e w16 ⟨rfl, hb⟩; refine ⟨_, rfl, ?_⟩; have n0_ := Sd.mk (blk_below (g := gb236) (o := .cells #[.int .i64 a0_0, .int .i64 a0_1] 25 (0, 0)) (by exact blkF BK236.out) hb); have n1_ := Sd.mk (blk_below (g := gb237) (o := .cells #[.int .i64 0, .int .i64 0] 25 (0, 0)) (by exact blkF BK237.out) hb); have n2_ := Sd.mk (below_step (by repeat (first | (with_reducible first | exact HB.out | apply bal | apply pbd | apply bd1 | refine bst ?_ GE236.out | refine bst ?_ GE237.out) | exact HB.out)) hb); clear BK236; clear BK237; clear HB; have BK236 := n0_; have BK237 := n1_; have HB := n2_; clear n0_ n1_ n2_; (try clear hb); (try clear hb2); (try clear hk); (try clear hi); have hcz17_0 : w16.cell? ⟨gb237, 0, none⟩ = some (.int .i64 0) := (blk_cell BK237.out 0).trans rfl; have hcz17_1 : w16.cell? ⟨gb237, 1, none⟩ = some (.int .i64 0) := (blk_cell BK237.out 1).trans rfl; have hfz17_0 := blk_frozen BK237.out 0; have hfz17_1 := blk_frozen BK237.out 1))
   refine bodyPost_ret (results_cell_row rfl _ _ gb237 25 #[.int .i64 t240, .int .i64 t241] (0, 0) _ rfl (by (with_reducible repeat (first | refine blk_drewN ?_ _ | refine blk_drew ?_ | refine blk_alloc ?_ _)); refine blk_put (cs := #[.int .i64 t240, .int .i64 0]) ?_ 1 _ rfl; (with_reducible repeat (first | refine blk_drewN ?_ _ | refine blk_drew ?_ | refine blk_alloc ?_ _)); refine blk_put (cs := #[.int .i64 0, .int .i64 0]) ?_ 0 _ rfl; (with_reducible repeat (first | refine blk_drewN ?_ _ | refine blk_drew ?_ | refine blk_alloc ?_ _)); exact BK237.out) Tryz.underlying25 rfl (by kernel_rfl)) rfl ?_
   exact ⟨by first | rfl | (simp [errW_none, errW_some] <;> rfl) | (simp [*, errW_none, errW_some] <;> rfl), by repeat (first | (with_reducible first | exact HB.out | apply bal | apply pbd | apply bd1 | refine bst ?_ GE236.out | refine bst ?_ GE237.out) | exact HB.out)⟩
  ·rw [if_neg c10] at H
   have c10b0 : (a0_0 == 5) = false := beq_eq_false_iff_ne.mpr c10
   have c10b1 : (a0_0 != 5) = true := bne_iff_ne.mpr c10
   simp only [Option.some.injEq, Prod.mk.injEq] at H
   obtain ⟨rfl, rfl⟩ := H
   go_enter Tryz.func76, Tryz.ntmps76
   go_wp2_with (first | ((with_reducible refine gate_dst (N := 1) rfl ?_); refine box_event ?hg (N := 1) ?hd (cs := #[.int .i64 a0_0, .int .i64 a0_1]) (t := 25) ?hr ?_; (case hd => rfl); (case hg => rfl); (case hr => first | (go_simp; done) | (go_simp; rfl)); intro gb236 hg w18 hbox hb; have n0_ := Sd.mk (below_step (by exact blwF HB.out) hb); have n1_ := Sd.mk (hbox); have n2_ := Sd.mk ((by rw [hg]; exact (below_size (by exact blwF HB.out)) : w.heap.size ≤ gb236)); have n3_ := Sd.mk ((by rw [hg]; exact (below_size (by exact blwF HB.out)) : w.heap.size ≤ gb236)); clear HB; have HB := n0_; have BK236 := n1_; have GW236 := n2_; have GE236 := n3_; clear n0_ n1_ n2_ n3_; clear hb hbox hg) | ((with_reducible refine gate_dst (N := 2) rfl ?_); refine box_event ?hg (N := 2) ?hd (cs := #[.int .i64 0, .int .i64 0]) (t := 25) ?hr ?_; (case hd => rfl); (case hg => rfl); (case hr => first | (go_simp; done) | (go_simp; rfl)); intro gb237 hg w19 hbox hb; have n0_ := Sd.mk (blk_below (g := gb236) (o := .cells #[.int .i64 a0_0, .int .i64 a0_1] 25 (0, 0)) (by exact blkF BK236.out) hb); have n1_ := Sd.mk (below_step (by repeat (first | (with_reducible first | exact HB.out | apply bal | apply pbd | apply bd1 | refine bst ?_ GE236.out) | exact HB.out)) hb); have n2_ := Sd.mk (hbox); have n3_ := Sd.mk ((by rw [hg]; exact (below_size (by repeat (first | (with_reducible first | exact HB.out | apply bal | apply pbd | apply bd1 | refine bst ?_ GE236.out) | exact HB.out))) : w.heap.size ≤ gb237)); have n4_ := Sd.mk ((by rw [hg]; exact (below_size (by repeat (first | (with_reducible first | exact HB.out | apply bal | apply pbd | apply bd1 | refine bst ?_ GE236.out) | exact HB.out))) : w.heap.size ≤ gb237)); have n5_ := Sd.mk ((by rw [hg]; exact Nat.ne_of_lt (blk_lt (g := gb236) (o := .cells #[.int .i64 a0_0, .int .i64 a0_1] 25 (0, 0)) (by exact blkF BK236.out)) : gb236 ≠ gb237)); have n6_ := Sd.mk ((by rw [hg]; exact Nat.ne_of_gt (blk_lt (g := gb236) (o := .cells #[.int .i64 a0_0, .int .i64 a0_1] 25 (0, 0)) (by exact blkF BK236.out)) : gb237 ≠ gb236)); clear BK236; clear HB; have BK236 := n0_; have HB := n1_; have BK237 := n2_; have GW237 := n3_; have GE237 := n4_; have NB236_237 := n5_; have NB237_236 := n6_; clear n0_ n1_ n2_ n3_ n4_ n5_ n6_; clear hb hbox hg; have hnb20 := NB236_237.out; have hnc20 := NB237_236.out; have hcz21_0 : w19.cell? ⟨gb236, 0, none⟩ = some (.int .i64 a0_0) := (blk_cell BK236.out 0).trans rfl; have hcz21_1 : w19.cell? ⟨gb236, 1, none⟩ = some (.int .i64 a0_1) := (blk_cell BK236.out 1).trans rfl; have hfz21_0 := blk_frozen BK236.out 0; have hfz21_1 := blk_frozen BK236.out 1; have hcz22_0 : w19.cell? ⟨gb237, 0, none⟩ = some (.int .i64 0) := (blk_cell BK237.out 0).trans rfl; have hcz22_1 : w19.cell? ⟨gb237, 1, none⟩ = some (.int .i64 0) := (blk_cell BK237.out 1).trans rfl; have hfz22_0 := blk_frozen BK237.out 0; have hfz22_1 := blk_frozen BK237.out 1))
   refine bodyPost_ret (results_cell_row rfl _ _ gb237 25 #[.int .i64 a0_0, .int .i64 (wrap64 (-a0_1))] (0, 0) _ rfl (by (with_reducible repeat (first | refine blk_drewN ?_ _ | refine blk_drew ?_ | refine blk_alloc ?_ _)); refine blk_put (cs := #[.int .i64 a0_0, .int .i64 0]) ?_ 1 _ rfl; (with_reducible repeat (first | refine blk_drewN ?_ _ | refine blk_drew ?_ | refine blk_alloc ?_ _)); refine blk_put (cs := #[.int .i64 0, .int .i64 0]) ?_ 0 _ rfl; (with_reducible repeat (first | refine blk_drewN ?_ _ | refine blk_drew ?_ | refine blk_alloc ?_ _)); refine blk_far ?_ NB237_236.out _; (with_reducible repeat (first | refine blk_drewN ?_ _ | refine blk_drew ?_ | refine blk_alloc ?_ _)); exact BK237.out) Tryz.underlying25 rfl (by kernel_rfl)) rfl ?_
   exact ⟨by first | rfl | (simp [errW_none, errW_some] <;> rfl) | (simp [*, errW_none, errW_some] <;> rfl), by repeat (first | (with_reducible first | exact HB.out | apply bal | apply pbd | apply bd1 | refine bst ?_ GE236.out | refine bst ?_ GE237.out) | exact HB.out)⟩
end Go.Proofs.YtcmiehddjgfjaaaGreatDoor.A
namespace Go.Proofs.YtcmiehddjgfjaaaGreatDoor.A
open Go.RowKit Go.Proofs.YtcmiehddjgfjaaaGreatDoorW.PrintWords Go.Proofs.YtcmiehddjgfjaaaGreatDoorW.PrintLast Go.Proofs.YtcmiehddjgfjaaaGreatDoorW.PrintMore
attribute [local go_sem] max2_int min2_int max_two min_two max_three min_three max_four min_four   -- for this text's walks alone
set_option linter.unusedVariables false
set_option linter.unusedSimpArgs false
mutual
def r8_one.j0 : Nat → ByteArray → Int → Int → Option (Int × Int × Bool)
 | 0, _, _, _ => none
 | k + 1, x0, x243000, x243001 => if x243000 = 2 then (some (x243000, x243001, true)) else (if x0.toList = ([33] : List UInt8) then ((r8_True.f x243000 x243001).bind fun t255 => ((r8_Truth.f (!t255)).bind fun bt256 => (some (bt256.1, bt256.2, true)))) else (if x243000 = 3 then (some (x243000, x243001, true)) else (if x0.toList = ([45] : List UInt8) then (r8_one.j1 k x0 true x243000 x243001) else (if x0.toList = ([97, 98, 115] : List UInt8) then ((r8_sign.f k x243000 x243001).bind fun t258 => (r8_one.j1 k x0 (decide (t258 < 0)) x243000 x243001)) else (r8_one.j1 k x0 false x243000 x243001)))))
def r8_one.j1 : Nat → ByteArray → Bool → Int → Int → Option (Int × Int × Bool)
 | 0, _, _, _, _ => none
 | k + 1, x0, x58, x243000, x243001 => if x58 = true then ((r8_turned.f x243000 x243001).bind fun bt259 => (some (bt259.1, bt259.2, true))) else (if x0.toList = ([102, 108, 111, 111, 114] : List UInt8) then ((r8_num.f x243000 x243001).bind fun t261 => (r8_one.j2 k t261 x243000 x243001)) else (r8_one.j2 k false x243000 x243001))
def r8_one.j2 : Nat → Bool → Int → Int → Option (Int × Int × Bool)
 | 0, _, _, _ => none
 | k + 1, x72, x243000, x243001 => if x72 = true then (if (Int.tmod x243001 1000) < 0 then ((r8_Num.f (wrap64 (x243001 - (wrap64 ((Int.tmod x243001 1000) + 1000))))).bind fun bt262 => (some (bt262.1, bt262.2, true))) else ((r8_Num.f (wrap64 (x243001 - (Int.tmod x243001 1000)))).bind fun bt264 => (some (bt264.1, bt264.2, true)))) else (some (x243000, x243001, true))
end
def r8_one.f (k : Nat) (a0 : ByteArray) (a1_0 : Int) (a1_1 : Int) : Option (Int × Int × Bool) := if a0.toList = ([105, 115, 95, 110, 117, 108, 108] : List UInt8) then ((r8_Truth.f (a1_0 == 2)).bind fun bt244 => (some (bt244.1, bt244.2, true))) else (if a0.toList = ([105, 115, 95, 110, 97, 110] : List UInt8) then ((r8_Truth.f (a1_0 == 3)).bind fun bt246 => (some (bt246.1, bt246.2, true))) else (if a0.toList = ([105, 115, 95, 105, 110, 102] : List UInt8) then (if a1_0 = 4 then ((r8_Truth.f true).bind fun bt248 => (some (bt248.1, bt248.2, true))) else ((r8_Truth.f (a1_0 == 5)).bind fun bt250 => (some (bt250.1, bt250.2, true)))) else (if a0.toList = ([105, 115, 95, 110, 117, 109, 98, 101, 114] : List UInt8) then ((r8_num.f a1_0 a1_1).bind fun t252 => ((r8_Truth.f t252).bind fun bt253 => (some (bt253.1, bt253.2, true)))) else (if a0.toList = ([45] : List UInt8) then (r8_one.j0 k a0 a1_0 a1_1) else (if a0.toList = ([97, 98, 115] : List UInt8) then (r8_one.j0 k a0 a1_0 a1_1) else (if a0.toList = ([102, 108, 111, 111, 114] : List UInt8) then (r8_one.j0 k a0 a1_0 a1_1) else (if a0.toList = ([33] : List UInt8) then (r8_one.j0 k a0 a1_0 a1_1) else (some (0, 0, false)))))))))
theorem r8_one.mono_l : ∀ k, (∀ y0 y1 y2, LeO (r8_one.j0 k y0 y1 y2) (r8_one.j0 (k + 1) y0 y1 y2)) ∧ (∀ y0 y1 y2 y3, LeO (r8_one.j1 k y0 y1 y2 y3) (r8_one.j1 (k + 1) y0 y1 y2 y3)) ∧ (∀ y0 y1 y2, LeO (r8_one.j2 k y0 y1 y2) (r8_one.j2 (k + 1) y0 y1 y2))
 | 0 => ⟨fun _ _ _ r h => by simp [r8_one.j0] at h, fun _ _ _ _ r h => by simp [r8_one.j1] at h, fun _ _ _ r h => by simp [r8_one.j2] at h⟩
 | k + 1 => by
  obtain ⟨ih0, ih1, ih2⟩ := r8_one.mono_l k
  refine ⟨?_, ?_, ?_⟩
  ·intro y0 y1 y2
   unfold r8_one.j0
   repeat' first
   | (with_reducible exact ih0 _ _ _)
   | (with_reducible exact ih1 _ _ _ _)
   | (with_reducible exact ih2 _ _ _)
   | (with_reducible exact r8_sign.mono _ _ _)
   | (with_reducible exact LeO.refl _)
   | (with_reducible exact LeO.none _)
   | (with_reducible refine LeO.ite ?_ ?_)
   | (with_reducible refine LeO.bind ?_ (fun _ => ?_))
   | exact ih0 _ _ _
   | exact ih1 _ _ _ _
   | exact ih2 _ _ _
   | exact r8_sign.mono _ _ _
   | exact LeO.none _
   | refine LeO.ite ?_ ?_
   | refine LeO.bind ?_ (fun _ => ?_)
  ·intro y0 y1 y2 y3
   unfold r8_one.j1
   repeat' first
   | (with_reducible exact ih0 _ _ _)
   | (with_reducible exact ih1 _ _ _ _)
   | (with_reducible exact ih2 _ _ _)
   | (with_reducible exact r8_sign.mono _ _ _)
   | (with_reducible exact LeO.refl _)
   | (with_reducible exact LeO.none _)
   | (with_reducible refine LeO.ite ?_ ?_)
   | (with_reducible refine LeO.bind ?_ (fun _ => ?_))
   | exact ih0 _ _ _
   | exact ih1 _ _ _ _
   | exact ih2 _ _ _
   | exact r8_sign.mono _ _ _
   | exact LeO.none _
   | refine LeO.ite ?_ ?_
   | refine LeO.bind ?_ (fun _ => ?_)
  ·intro y0 y1 y2
   unfold r8_one.j2
   repeat' first
   | (with_reducible exact ih0 _ _ _)
   | (with_reducible exact ih1 _ _ _ _)
   | (with_reducible exact ih2 _ _ _)
   | (with_reducible exact r8_sign.mono _ _ _)
   | (with_reducible exact LeO.refl _)
   | (with_reducible exact LeO.none _)
   | (with_reducible refine LeO.ite ?_ ?_)
   | (with_reducible refine LeO.bind ?_ (fun _ => ?_))
   | exact ih0 _ _ _
   | exact ih1 _ _ _ _
   | exact ih2 _ _ _
   | exact r8_sign.mono _ _ _
   | exact LeO.none _
   | refine LeO.ite ?_ ?_
   | refine LeO.bind ?_ (fun _ => ?_)
theorem r8_one.mono : ∀ a0 a1 a2 k, LeO (r8_one.f k a0 a1 a2) (r8_one.f (k + 1) a0 a1 a2) := by
 intro a0 a1 a2 k
 obtain ⟨ih0, ih1, ih2⟩ := r8_one.mono_l k
 unfold r8_one.f
 repeat' first
   | (with_reducible exact ih0 _ _ _)
   | (with_reducible exact ih1 _ _ _ _)
   | (with_reducible exact ih2 _ _ _)
   | (with_reducible exact r8_sign.mono _ _ _)
   | (with_reducible exact LeO.refl _)
   | (with_reducible exact LeO.none _)
   | (with_reducible refine LeO.ite ?_ ?_)
   | (with_reducible refine LeO.bind ?_ (fun _ => ?_))
   | exact ih0 _ _ _
   | exact ih1 _ _ _ _
   | exact ih2 _ _ _
   | exact r8_sign.mono _ _ _
   | exact LeO.none _
   | refine LeO.ite ?_ ?_
   | refine LeO.bind ?_ (fun _ => ?_)
set_option maxHeartbeats 8000000 in
set_option maxRecDepth 100000 in
theorem r8_one.calls (k : Nat) (a0 : ByteArray) (a1_0 : Int) (a1_1 : Int) (r1 : Int) (r2 : Int) (r3 : Bool) (w : World) (h : r8_one.f k a0 a1_0 a1_1 = some (r1, r2, r3)) :
  Calls Tryz.prog 39 #[.string a0, .agg #[.int .i64 a1_0, .int .i64 a1_1]] w fun e w' => e = .returned (.tuple #[.agg #[.int .i64 r1, .int .i64 r2], .bool r3]) ∧ Below w.heap.size w w' := by
 have hu25 := Tryz.underlying25
 have HB := Sd.mk (Below.refl w.heap.size w)
 have H : (if a0.toList = ([105, 115, 95, 110, 117, 108, 108] : List UInt8) then ((r8_Truth.f (a1_0 == 2)).bind fun bt244 => (some (bt244.1, bt244.2, true))) else (if a0.toList = ([105, 115, 95, 110, 97, 110] : List UInt8) then ((r8_Truth.f (a1_0 == 3)).bind fun bt246 => (some (bt246.1, bt246.2, true))) else (if a0.toList = ([105, 115, 95, 105, 110, 102] : List UInt8) then (if a1_0 = 4 then ((r8_Truth.f true).bind fun bt248 => (some (bt248.1, bt248.2, true))) else ((r8_Truth.f (a1_0 == 5)).bind fun bt250 => (some (bt250.1, bt250.2, true)))) else (if a0.toList = ([105, 115, 95, 110, 117, 109, 98, 101, 114] : List UInt8) then ((r8_num.f a1_0 a1_1).bind fun t252 => ((r8_Truth.f t252).bind fun bt253 => (some (bt253.1, bt253.2, true)))) else (if a0.toList = ([45] : List UInt8) then (r8_one.j0 k a0 a1_0 a1_1) else (if a0.toList = ([97, 98, 115] : List UInt8) then (r8_one.j0 k a0 a1_0 a1_1) else (if a0.toList = ([102, 108, 111, 111, 114] : List UInt8) then (r8_one.j0 k a0 a1_0 a1_1) else (if a0.toList = ([33] : List UInt8) then (r8_one.j0 k a0 a1_0 a1_1) else (some (0, 0, false)))))))))) = some (r1, r2, r3) := h
 clear h
 have HC3 := Sd.mk H
 clear H
 go_enter Tryz.func39, Tryz.ntmps39
 go_upto_block 0 with (first | ((with_reducible refine gate_dst (N := 3) rfl ?_); refine box_event ?hg (N := 3) ?hd (cs := #[.int .i64 a1_0, .int .i64 a1_1]) (t := 25) ?hr ?_; (case hd => rfl); (case hg => rfl); (case hr => first | (go_simp; done) | (go_simp; rfl)); intro gb242 hg w4 hbox hb; have n0_ := Sd.mk (below_step (by exact blwF HB.out) hb); have n1_ := Sd.mk (hbox); have n2_ := Sd.mk ((by rw [hg]; exact (below_size (by exact blwF HB.out)) : w.heap.size ≤ gb242)); have n3_ := Sd.mk ((by rw [hg]; exact (below_size (by exact blwF HB.out)) : w.heap.size ≤ gb242)); clear HB; have HB := n0_; have BK242 := n1_; have GW242 := n2_; have GE242 := n3_; clear n0_ n1_ n2_ n3_; clear hb hbox hg) | ((with_reducible refine gate_dst (N := 4) rfl ?_); refine box_event ?hg (N := 4) ?hd (cs := #[.int .i64 0, .int .i64 0]) (t := 25) ?hr ?_; (case hd => rfl); (case hg => rfl); (case hr => first | (go_simp; done) | (go_simp; rfl)); intro gb243 hg w5 hbox hb; have n0_ := Sd.mk (blk_below (g := gb242) (o := .cells #[.int .i64 a1_0, .int .i64 a1_1] 25 (0, 0)) (by exact blkF BK242.out) hb); have n1_ := Sd.mk (below_step (by repeat (first | (with_reducible first | exact HB.out | apply bal | apply pbd | apply bd1 | refine bst ?_ GE242.out) | exact HB.out)) hb); have n2_ := Sd.mk (hbox); have n3_ := Sd.mk ((by rw [hg]; exact (below_size (by repeat (first | (with_reducible first | exact HB.out | apply bal | apply pbd | apply bd1 | refine bst ?_ GE242.out) | exact HB.out))) : w.heap.size ≤ gb243)); have n4_ := Sd.mk ((by rw [hg]; exact (below_size (by repeat (first | (with_reducible first | exact HB.out | apply bal | apply pbd | apply bd1 | refine bst ?_ GE242.out) | exact HB.out))) : w.heap.size ≤ gb243)); have n5_ := Sd.mk ((by rw [hg]; exact Nat.ne_of_lt (blk_lt (g := gb242) (o := .cells #[.int .i64 a1_0, .int .i64 a1_1] 25 (0, 0)) (by exact blkF BK242.out)) : gb242 ≠ gb243)); have n6_ := Sd.mk ((by rw [hg]; exact Nat.ne_of_gt (blk_lt (g := gb242) (o := .cells #[.int .i64 a1_0, .int .i64 a1_1] 25 (0, 0)) (by exact blkF BK242.out)) : gb243 ≠ gb242)); clear BK242; clear HB; have BK242 := n0_; have HB := n1_; have BK243 := n2_; have GW243 := n3_; have GE243 := n4_; have NB242_243 := n5_; have NB243_242 := n6_; clear n0_ n1_ n2_ n3_ n4_ n5_ n6_; clear hb hbox hg))
 (try simp only [Act.put, List.setIfInBounds_toArray, List.set_cons_zero, List.set_cons_succ])
 go_cut [] (fun wc => ∃ (kq : Nat) (x244000_2 : Int) (x244001_2 : Int), Sd (r8_one.j0 kq a0 a1_0 a1_1 = some (r1, r2, r3)) ∧ Sd (kq ≤ k) ∧ Sd (wc.heap[gb242]? = some (.cells #[.int .i64 a1_0, .int .i64 a1_1] 25 (0, 0))) ∧ Sd (wc.heap[gb243]? = some (.cells #[.int .i64 x244000_2, .int .i64 x244001_2] 25 (0, 0))) ∧ Sd (Below w.heap.size w wc))
 case first =>
  have H := HC3.out
  clear HC3
  by_cases c6 : a0.toList = ([105, 115, 95, 110, 117, 108, 108] : List UInt8)
  ·rw [if_pos c6] at H
   have c6b0 : (a0.toList == ([105, 115, 95, 110, 117, 108, 108] : List UInt8)) = true := beq_iff_eq.mpr c6
   have c6b1 : (a0.toList != ([105, 115, 95, 110, 117, 108, 108] : List UInt8)) = false := bne_eq_false_iff_eq.mpr c6
   clear c6
   (first | rw [c6b0] | (simp only [i64_w, i32_w]; rw [c6b0]) | skip)
   replace H := Option.bind_eq_some_iff.mp H
   obtain ⟨⟨t244, t245⟩, A70, H⟩ := H
   replace H : (some (t244, t245, true)) = some (r1, r2, r3) := H
   have A7 := Sd.mk A70
   clear A70
   simp only [Option.some.injEq, Prod.mk.injEq] at H
   obtain ⟨rfl, rfl, rfl⟩ := H
   have hnb8 := NB242_243.out
   have hnc8 := NB243_242.out
   have hcz9_0 : w5.cell? ⟨gb242, 0, none⟩ = some (.int .i64 a1_0) := (blk_cell BK242.out 0).trans rfl
   have hcz9_1 : w5.cell? ⟨gb242, 1, none⟩ = some (.int .i64 a1_1) := (blk_cell BK242.out 1).trans rfl
   have hfz9_0 := blk_frozen BK242.out 0
   have hfz9_1 := blk_frozen BK242.out 1
   go_wp2_with (first | ((with_reducible refine gate_callee (f := 22) rfl ?_); refine goesL_ (some 14) rfl rfl Tryz.func22 (by kernel_rfl) rfl #[.bool (a1_0 == 2)] rfl (by (try simp only [List.map_toArray, List.map_cons, List.map_nil]); first | done | rfl | (simp only [List.length_drop, List.length_take]; rfl)) ?_; (with_reducible refine (r8_Truth.calls (a1_0 == 2) t244 t245 _ A7.out).mono ?_); rintro e w10 ⟨rfl, hb⟩; refine ⟨_, rfl, ?_⟩; have n0_ := Sd.mk (blk_below (g := gb242) (o := .cells #[.int .i64 a1_0, .int .i64 a1_1] 25 (0, 0)) (by exact blkF BK242.out) hb); have n1_ := Sd.mk (blk_below (g := gb243) (o := .cells #[.int .i64 0, .int .i64 0] 25 (0, 0)) (by exact blkF BK243.out) hb); have n2_ := Sd.mk (below_step (by repeat (first | (with_reducible first | exact HB.out | apply bal | apply pbd | apply bd1 | refine bst ?_ GE242.out | refine bst ?_ GE243.out) | exact HB.out)) hb); clear BK242; clear BK243; clear HB; have BK242 := n0_; have BK243 := n1_; have HB := n2_; clear n0_ n1_ n2_; (try clear hb); (try clear hb2); (try clear hk); (try clear hi); have hcz11_0 : w10.cell? ⟨gb243, 0, none⟩ = some (.int .i64 0) := (blk_cell BK243.out 0).trans rfl; have hcz11_1 : w10.cell? ⟨gb243, 1, none⟩ = some (.int .i64 0) := (blk_cell BK243.out 1).trans rfl; have hfz11_0 := blk_frozen BK243.out 0; have hfz11_1 := blk_frozen BK243.out 1))
   refine bodyPost_ret (results_ct rfl _ _ gb243 25 #[.int .i64 t244, .int .i64 t245] (0, 0) _ rfl (by (with_reducible repeat (first | refine blk_drewN ?_ _ | refine blk_drew ?_ | refine blk_alloc ?_ _)); refine blk_put (cs := #[.int .i64 t244, .int .i64 0]) ?_ 1 _ rfl; (with_reducible repeat (first | refine blk_drewN ?_ _ | refine blk_drew ?_ | refine blk_alloc ?_ _)); refine blk_put (cs := #[.int .i64 0, .int .i64 0]) ?_ 0 _ rfl; (with_reducible repeat (first | refine blk_drewN ?_ _ | refine blk_drew ?_ | refine blk_alloc ?_ _)); exact BK243.out) Tryz.underlying25 rfl (by kernel_rfl)) rfl ?_
   exact ⟨by first | rfl | (simp [errW_none, errW_some] <;> rfl) | (simp [*, errW_none, errW_some] <;> rfl), by repeat (first | (with_reducible first | exact HB.out | apply bal | apply pbd | apply bd1 | refine bst ?_ GE242.out | refine bst ?_ GE243.out) | exact HB.out)⟩
  ·rw [if_neg c6] at H
   have c6b0 : (a0.toList == ([105, 115, 95, 110, 117, 108, 108] : List UInt8)) = false := beq_eq_false_iff_ne.mpr c6
   have c6b1 : (a0.toList != ([105, 115, 95, 110, 117, 108, 108] : List UInt8)) = true := bne_iff_ne.mpr c6
   (first | rw [c6b0] | (simp only [i64_w, i32_w]; rw [c6b0]) | skip)
   by_cases c12 : a0.toList = ([105, 115, 95, 110, 97, 110] : List UInt8)
   ·rw [if_pos c12] at H
    have c12b0 : (a0.toList == ([105, 115, 95, 110, 97, 110] : List UInt8)) = true := beq_iff_eq.mpr c12
    have c12b1 : (a0.toList != ([105, 115, 95, 110, 97, 110] : List UInt8)) = false := bne_eq_false_iff_eq.mpr c12
    clear c12
    replace H := Option.bind_eq_some_iff.mp H
    obtain ⟨⟨t246, t247⟩, A130, H⟩ := H
    replace H : (some (t246, t247, true)) = some (r1, r2, r3) := H
    have A13 := Sd.mk A130
    clear A130
    simp only [Option.some.injEq, Prod.mk.injEq] at H
    obtain ⟨rfl, rfl, rfl⟩ := H
    have hnb14 := NB242_243.out
    have hnc14 := NB243_242.out
    have hcz15_0 : w5.cell? ⟨gb242, 0, none⟩ = some (.int .i64 a1_0) := (blk_cell BK242.out 0).trans rfl
    have hcz15_1 : w5.cell? ⟨gb242, 1, none⟩ = some (.int .i64 a1_1) := (blk_cell BK242.out 1).trans rfl
    have hfz15_0 := blk_frozen BK242.out 0
    have hfz15_1 := blk_frozen BK242.out 1
    go_wp2_with (first | ((with_reducible refine gate_callee (f := 22) rfl ?_); refine goesL_ (some 20) rfl rfl Tryz.func22 (by kernel_rfl) rfl #[.bool (a1_0 == 3)] rfl (by (try simp only [List.map_toArray, List.map_cons, List.map_nil]); first | done | rfl | (simp only [List.length_drop, List.length_take]; rfl)) ?_; (with_reducible refine (r8_Truth.calls (a1_0 == 3) t246 t247 _ A13.out).mono ?_); rintro e w16 ⟨rfl, hb⟩; refine ⟨_, rfl, ?_⟩; have n0_ := Sd.mk (blk_below (g := gb242) (o := .cells #[.int .i64 a1_0, .int .i64 a1_1] 25 (0, 0)) (by exact blkF BK242.out) hb); have n1_ := Sd.mk (blk_below (g := gb243) (o := .cells #[.int .i64 0, .int .i64 0] 25 (0, 0)) (by exact blkF BK243.out) hb); have n2_ := Sd.mk (below_step (by repeat (first | (with_reducible first | exact HB.out | apply bal | apply pbd | apply bd1 | refine bst ?_ GE242.out | refine bst ?_ GE243.out) | exact HB.out)) hb); clear BK242; clear BK243; clear HB; have BK242 := n0_; have BK243 := n1_; have HB := n2_; clear n0_ n1_ n2_; (try clear hb); (try clear hb2); (try clear hk); (try clear hi); have hcz17_0 : w16.cell? ⟨gb243, 0, none⟩ = some (.int .i64 0) := (blk_cell BK243.out 0).trans rfl; have hcz17_1 : w16.cell? ⟨gb243, 1, none⟩ = some (.int .i64 0) := (blk_cell BK243.out 1).trans rfl; have hfz17_0 := blk_frozen BK243.out 0; have hfz17_1 := blk_frozen BK243.out 1))
    refine bodyPost_ret (results_ct rfl _ _ gb243 25 #[.int .i64 t246, .int .i64 t247] (0, 0) _ rfl (by (with_reducible repeat (first | refine blk_drewN ?_ _ | refine blk_drew ?_ | refine blk_alloc ?_ _)); refine blk_put (cs := #[.int .i64 t246, .int .i64 0]) ?_ 1 _ rfl; (with_reducible repeat (first | refine blk_drewN ?_ _ | refine blk_drew ?_ | refine blk_alloc ?_ _)); refine blk_put (cs := #[.int .i64 0, .int .i64 0]) ?_ 0 _ rfl; (with_reducible repeat (first | refine blk_drewN ?_ _ | refine blk_drew ?_ | refine blk_alloc ?_ _)); exact BK243.out) Tryz.underlying25 rfl (by kernel_rfl)) rfl ?_
    exact ⟨by first | rfl | (simp [errW_none, errW_some] <;> rfl) | (simp [*, errW_none, errW_some] <;> rfl), by repeat (first | (with_reducible first | exact HB.out | apply bal | apply pbd | apply bd1 | refine bst ?_ GE242.out | refine bst ?_ GE243.out) | exact HB.out)⟩
   ·rw [if_neg c12] at H
    have c12b0 : (a0.toList == ([105, 115, 95, 110, 97, 110] : List UInt8)) = false := beq_eq_false_iff_ne.mpr c12
    have c12b1 : (a0.toList != ([105, 115, 95, 110, 97, 110] : List UInt8)) = true := bne_iff_ne.mpr c12
    by_cases c18 : a0.toList = ([105, 115, 95, 105, 110, 102] : List UInt8)
    ·rw [if_pos c18] at H
     have c18b0 : (a0.toList == ([105, 115, 95, 105, 110, 102] : List UInt8)) = true := beq_iff_eq.mpr c18
     have c18b1 : (a0.toList != ([105, 115, 95, 105, 110, 102] : List UInt8)) = false := bne_eq_false_iff_eq.mpr c18
     clear c18
     by_cases c19 : a1_0 = 4
     ·rw [if_pos c19] at H
      have c19b0 : (a1_0 == 4) = true := beq_iff_eq.mpr c19
      have c19b1 : (a1_0 != 4) = false := bne_eq_false_iff_eq.mpr c19
      clear c19
      replace H := Option.bind_eq_some_iff.mp H
      obtain ⟨⟨t248, t249⟩, A200, H⟩ := H
      replace H : (some (t248, t249, true)) = some (r1, r2, r3) := H
      have A20 := Sd.mk A200
      clear A200
      simp only [Option.some.injEq, Prod.mk.injEq] at H
      obtain ⟨rfl, rfl, rfl⟩ := H
      have hnb21 := NB242_243.out
      have hnc21 := NB243_242.out
      have hcz22_0 : w5.cell? ⟨gb242, 0, none⟩ = some (.int .i64 a1_0) := (blk_cell BK242.out 0).trans rfl
      have hcz22_1 : w5.cell? ⟨gb242, 1, none⟩ = some (.int .i64 a1_1) := (blk_cell BK242.out 1).trans rfl
      have hfz22_0 := blk_frozen BK242.out 0
      have hfz22_1 := blk_frozen BK242.out 1
      go_wp2_with (first | ((with_reducible refine gate_callee (f := 22) rfl ?_); refine goesL_ (some 31) rfl rfl Tryz.func22 (by kernel_rfl) rfl #[.bool true] rfl (by (try simp only [List.map_toArray, List.map_cons, List.map_nil]); first | done | rfl | (simp only [List.length_drop, List.length_take]; rfl)) ?_; (with_reducible refine (r8_Truth.calls true t248 t249 _ A20.out).mono ?_); rintro e w23 ⟨rfl, hb⟩; refine ⟨_, rfl, ?_⟩; have n0_ := Sd.mk (blk_below (g := gb242) (o := .cells #[.int .i64 a1_0, .int .i64 a1_1] 25 (0, 0)) (by exact blkF BK242.out) hb); have n1_ := Sd.mk (blk_below (g := gb243) (o := .cells #[.int .i64 0, .int .i64 0] 25 (0, 0)) (by exact blkF BK243.out) hb); have n2_ := Sd.mk (below_step (by repeat (first | (with_reducible first | exact HB.out | apply bal | apply pbd | apply bd1 | refine bst ?_ GE242.out | refine bst ?_ GE243.out) | exact HB.out)) hb); clear BK242; clear BK243; clear HB; have BK242 := n0_; have BK243 := n1_; have HB := n2_; clear n0_ n1_ n2_; (try clear hb); (try clear hb2); (try clear hk); (try clear hi); have hcz24_0 : w23.cell? ⟨gb243, 0, none⟩ = some (.int .i64 0) := (blk_cell BK243.out 0).trans rfl; have hcz24_1 : w23.cell? ⟨gb243, 1, none⟩ = some (.int .i64 0) := (blk_cell BK243.out 1).trans rfl; have hfz24_0 := blk_frozen BK243.out 0; have hfz24_1 := blk_frozen BK243.out 1))
      refine bodyPost_ret (results_ct rfl _ _ gb243 25 #[.int .i64 t248, .int .i64 t249] (0, 0) _ rfl (by (with_reducible repeat (first | refine blk_drewN ?_ _ | refine blk_drew ?_ | refine blk_alloc ?_ _)); refine blk_put (cs := #[.int .i64 t248, .int .i64 0]) ?_ 1 _ rfl; (with_reducible repeat (first | refine blk_drewN ?_ _ | refine blk_drew ?_ | refine blk_alloc ?_ _)); refine blk_put (cs := #[.int .i64 0, .int .i64 0]) ?_ 0 _ rfl; (with_reducible repeat (first | refine blk_drewN ?_ _ | refine blk_drew ?_ | refine blk_alloc ?_ _)); exact BK243.out) Tryz.underlying25 rfl (by kernel_rfl)) rfl ?_
      exact ⟨by first | rfl | (simp [errW_none, errW_some] <;> rfl) | (simp [*, errW_none, errW_some] <;> rfl), by repeat (first | (with_reducible first | exact HB.out | apply bal | apply pbd | apply bd1 | refine bst ?_ GE242.out | refine bst ?_ GE243.out) | exact HB.out)⟩
     ·rw [if_neg c19] at H
      have c19b0 : (a1_0 == 4) = false := beq_eq_false_iff_ne.mpr c19
      have c19b1 : (a1_0 != 4) = true := bne_iff_ne.mpr c19
      replace H := Option.bind_eq_some_iff.mp H
      obtain ⟨⟨t250, t251⟩, A250, H⟩ := H
      replace H : (some (t250, t251, true)) = some (r1, r2, r3) := H
      have A25 := Sd.mk A250
      clear A250
      simp only [Option.some.injEq, Prod.mk.injEq] at H
      obtain ⟨rfl, rfl, rfl⟩ := H
      have hnb26 := NB242_243.out
      have hnc26 := NB243_242.out
      have hcz27_0 : w5.cell? ⟨gb242, 0, none⟩ = some (.int .i64 a1_0) := (blk_cell BK242.out 0).trans rfl
      have hcz27_1 : w5.cell? ⟨gb242, 1, none⟩ = some (.int .i64 a1_1) := (blk_cell BK242.out 1).trans rfl
      have hfz27_0 := blk_frozen BK242.out 0
      have hfz27_1 := blk_frozen BK242.out 1
      go_wp2_with (first | ((with_reducible refine gate_callee (f := 22) rfl ?_); refine goesL_ (some 31) rfl rfl Tryz.func22 (by kernel_rfl) rfl #[.bool (a1_0 == 5)] rfl (by (try simp only [List.map_toArray, List.map_cons, List.map_nil]); first | done | rfl | (simp only [List.length_drop, List.length_take]; rfl)) ?_; (with_reducible refine (r8_Truth.calls (a1_0 == 5) t250 t251 _ A25.out).mono ?_); rintro e w28 ⟨rfl, hb⟩; refine ⟨_, rfl, ?_⟩; have n0_ := Sd.mk (blk_below (g := gb242) (o := .cells #[.int .i64 a1_0, .int .i64 a1_1] 25 (0, 0)) (by exact blkF BK242.out) hb); have n1_ := Sd.mk (blk_below (g := gb243) (o := .cells #[.int .i64 0, .int .i64 0] 25 (0, 0)) (by exact blkF BK243.out) hb); have n2_ := Sd.mk (below_step (by repeat (first | (with_reducible first | exact HB.out | apply bal | apply pbd | apply bd1 | refine bst ?_ GE242.out | refine bst ?_ GE243.out) | exact HB.out)) hb); clear BK242; clear BK243; clear HB; have BK242 := n0_; have BK243 := n1_; have HB := n2_; clear n0_ n1_ n2_; (try clear hb); (try clear hb2); (try clear hk); (try clear hi); have hcz29_0 : w28.cell? ⟨gb243, 0, none⟩ = some (.int .i64 0) := (blk_cell BK243.out 0).trans rfl; have hcz29_1 : w28.cell? ⟨gb243, 1, none⟩ = some (.int .i64 0) := (blk_cell BK243.out 1).trans rfl; have hfz29_0 := blk_frozen BK243.out 0; have hfz29_1 := blk_frozen BK243.out 1))
      refine bodyPost_ret (results_ct rfl _ _ gb243 25 #[.int .i64 t250, .int .i64 t251] (0, 0) _ rfl (by (with_reducible repeat (first | refine blk_drewN ?_ _ | refine blk_drew ?_ | refine blk_alloc ?_ _)); refine blk_put (cs := #[.int .i64 t250, .int .i64 0]) ?_ 1 _ rfl; (with_reducible repeat (first | refine blk_drewN ?_ _ | refine blk_drew ?_ | refine blk_alloc ?_ _)); refine blk_put (cs := #[.int .i64 0, .int .i64 0]) ?_ 0 _ rfl; (with_reducible repeat (first | refine blk_drewN ?_ _ | refine blk_drew ?_ | refine blk_alloc ?_ _)); exact BK243.out) Tryz.underlying25 rfl (by kernel_rfl)) rfl ?_
      exact ⟨by first | rfl | (simp [errW_none, errW_some] <;> rfl) | (simp [*, errW_none, errW_some] <;> rfl), by repeat (first | (with_reducible first | exact HB.out | apply bal | apply pbd | apply bd1 | refine bst ?_ GE242.out | refine bst ?_ GE243.out) | exact HB.out)⟩
    ·rw [if_neg c18] at H
     have c18b0 : (a0.toList == ([105, 115, 95, 105, 110, 102] : List UInt8)) = false := beq_eq_false_iff_ne.mpr c18
     have c18b1 : (a0.toList != ([105, 115, 95, 105, 110, 102] : List UInt8)) = true := bne_iff_ne.mpr c18
     by_cases c30 : a0.toList = ([105, 115, 95, 110, 117, 109, 98, 101, 114] : List UInt8)
     ·rw [if_pos c30] at H
      have c30b0 : (a0.toList == ([105, 115, 95, 110, 117, 109, 98, 101, 114] : List UInt8)) = true := beq_iff_eq.mpr c30
      have c30b1 : (a0.toList != ([105, 115, 95, 110, 117, 109, 98, 101, 114] : List UInt8)) = false := bne_eq_false_iff_eq.mpr c30
      clear c30
      replace H := Option.bind_eq_some_iff.mp H
      obtain ⟨t252, A310, H⟩ := H
      replace H : ((r8_Truth.f t252).bind fun bt253 => (some (bt253.1, bt253.2, true))) = some (r1, r2, r3) := H
      have A31 := Sd.mk A310
      clear A310
      replace H := Option.bind_eq_some_iff.mp H
      obtain ⟨⟨t253, t254⟩, A320, H⟩ := H
      replace H : (some (t253, t254, true)) = some (r1, r2, r3) := H
      have A32 := Sd.mk A320
      clear A320
      simp only [Option.some.injEq, Prod.mk.injEq] at H
      obtain ⟨rfl, rfl, rfl⟩ := H
      have hnb33 := NB242_243.out
      have hnc33 := NB243_242.out
      have hcz34_0 : w5.cell? ⟨gb242, 0, none⟩ = some (.int .i64 a1_0) := (blk_cell BK242.out 0).trans rfl
      have hcz34_1 : w5.cell? ⟨gb242, 1, none⟩ = some (.int .i64 a1_1) := (blk_cell BK242.out 1).trans rfl
      have hfz34_0 := blk_frozen BK242.out 0
      have hfz34_1 := blk_frozen BK242.out 1
      go_wp2_with (first | ((with_reducible refine gate_callee (f := 48) rfl ?_); refine goesL_ (some 35) rfl rfl Tryz.func48 (by kernel_rfl) rfl #[.agg #[.int .i64 a1_0, .int .i64 a1_1]] rfl (by (try simp only [List.map_toArray, List.map_cons, List.map_nil]); first | done | rfl | (simp only [List.length_drop, List.length_take]; rfl)) ?_; (with_reducible refine (r8_num.calls a1_0 a1_1 t252 _ A31.out).mono ?_); rintro e w35 ⟨rfl, hb⟩; refine ⟨_, rfl, ?_⟩; have n0_ := Sd.mk (blk_below (g := gb242) (o := .cells #[.int .i64 a1_0, .int .i64 a1_1] 25 (0, 0)) (by exact blkF BK242.out) hb); have n1_ := Sd.mk (blk_below (g := gb243) (o := .cells #[.int .i64 0, .int .i64 0] 25 (0, 0)) (by exact blkF BK243.out) hb); have n2_ := Sd.mk (below_step (by repeat (first | (with_reducible first | exact HB.out | apply bal | apply pbd | apply bd1 | refine bst ?_ GE242.out | refine bst ?_ GE243.out) | exact HB.out)) hb); clear BK242; clear BK243; clear HB; have BK242 := n0_; have BK243 := n1_; have HB := n2_; clear n0_ n1_ n2_; (try clear hb); (try clear hb2); (try clear hk); (try clear hi)) | ((with_reducible refine gate_callee (f := 22) rfl ?_); refine goesL_ (some 36) rfl rfl Tryz.func22 (by kernel_rfl) rfl #[.bool t252] rfl (by (try simp only [List.map_toArray, List.map_cons, List.map_nil]); first | done | rfl | (simp only [List.length_drop, List.length_take]; rfl)) ?_; (with_reducible refine (r8_Truth.calls t252 t253 t254 _ A32.out).mono ?_); rintro e w36 ⟨rfl, hb⟩; refine ⟨_, rfl, ?_⟩; have n0_ := Sd.mk (blk_below (g := gb242) (o := .cells #[.int .i64 a1_0, .int .i64 a1_1] 25 (0, 0)) (by exact blkF BK242.out) hb); have n1_ := Sd.mk (blk_below (g := gb243) (o := .cells #[.int .i64 0, .int .i64 0] 25 (0, 0)) (by exact blkF BK243.out) hb); have n2_ := Sd.mk (below_step (by repeat (first | (with_reducible first | exact HB.out | apply bal | apply pbd | apply bd1 | refine bst ?_ GE242.out | refine bst ?_ GE243.out) | exact HB.out)) hb); clear BK242; clear BK243; clear HB; have BK242 := n0_; have BK243 := n1_; have HB := n2_; clear n0_ n1_ n2_; (try clear hb); (try clear hb2); (try clear hk); (try clear hi); have hcz37_0 : w36.cell? ⟨gb243, 0, none⟩ = some (.int .i64 0) := (blk_cell BK243.out 0).trans rfl; have hcz37_1 : w36.cell? ⟨gb243, 1, none⟩ = some (.int .i64 0) := (blk_cell BK243.out 1).trans rfl; have hfz37_0 := blk_frozen BK243.out 0; have hfz37_1 := blk_frozen BK243.out 1))
      refine bodyPost_ret (results_ct rfl _ _ gb243 25 #[.int .i64 t253, .int .i64 t254] (0, 0) _ rfl (by (with_reducible repeat (first | refine blk_drewN ?_ _ | refine blk_drew ?_ | refine blk_alloc ?_ _)); refine blk_put (cs := #[.int .i64 t253, .int .i64 0]) ?_ 1 _ rfl; (with_reducible repeat (first | refine blk_drewN ?_ _ | refine blk_drew ?_ | refine blk_alloc ?_ _)); refine blk_put (cs := #[.int .i64 0, .int .i64 0]) ?_ 0 _ rfl; (with_reducible repeat (first | refine blk_drewN ?_ _ | refine blk_drew ?_ | refine blk_alloc ?_ _)); exact BK243.out) Tryz.underlying25 rfl (by kernel_rfl)) rfl ?_
      exact ⟨by first | rfl | (simp [errW_none, errW_some] <;> rfl) | (simp [*, errW_none, errW_some] <;> rfl), by repeat (first | (with_reducible first | exact HB.out | apply bal | apply pbd | apply bd1 | refine bst ?_ GE242.out | refine bst ?_ GE243.out) | exact HB.out)⟩
     ·rw [if_neg c30] at H
      have c30b0 : (a0.toList == ([105, 115, 95, 110, 117, 109, 98, 101, 114] : List UInt8)) = false := beq_eq_false_iff_ne.mpr c30
      have c30b1 : (a0.toList != ([105, 115, 95, 110, 117, 109, 98, 101, 114] : List UInt8)) = true := bne_iff_ne.mpr c30
      by_cases c38 : a0.toList = ([45] : List UInt8)
      ·rw [if_pos c38] at H
       have c38b0 : (a0.toList == ([45] : List UInt8)) = true := beq_iff_eq.mpr c38
       have c38b1 : (a0.toList != ([45] : List UInt8)) = false := bne_eq_false_iff_eq.mpr c38
       clear c38
       have H' := Sd.mk H
       clear H
       go_wp2
       go_meet
       case rel => exact ⟨_, (0), (0), H', ⟨by first | omega | exact Nat.le_refl _⟩, ⟨by (with_reducible repeat (first | refine blk_drewN ?_ _ | refine blk_drew ?_ | refine blk_alloc ?_ _)); exact BK242.out⟩, ⟨by (with_reducible repeat (first | refine blk_drewN ?_ _ | refine blk_drew ?_ | refine blk_alloc ?_ _)); exact BK243.out⟩, ⟨by repeat (first | (with_reducible first | exact HB.out | apply bal | apply pbd | apply bd1 | refine bst ?_ GE242.out | refine bst ?_ GE243.out) | exact HB.out)⟩⟩
      ·rw [if_neg c38] at H
       have c38b0 : (a0.toList == ([45] : List UInt8)) = false := beq_eq_false_iff_ne.mpr c38
       have c38b1 : (a0.toList != ([45] : List UInt8)) = true := bne_iff_ne.mpr c38
       by_cases c39 : a0.toList = ([97, 98, 115] : List UInt8)
       ·rw [if_pos c39] at H
        have c39b0 : (a0.toList == ([97, 98, 115] : List UInt8)) = true := beq_iff_eq.mpr c39
        have c39b1 : (a0.toList != ([97, 98, 115] : List UInt8)) = false := bne_eq_false_iff_eq.mpr c39
        clear c39
        have H' := Sd.mk H
        clear H
        go_wp2
        go_meet
        case rel => exact ⟨_, (0), (0), H', ⟨by first | omega | exact Nat.le_refl _⟩, ⟨by (with_reducible repeat (first | refine blk_drewN ?_ _ | refine blk_drew ?_ | refine blk_alloc ?_ _)); exact BK242.out⟩, ⟨by (with_reducible repeat (first | refine blk_drewN ?_ _ | refine blk_drew ?_ | refine blk_alloc ?_ _)); exact BK243.out⟩, ⟨by repeat (first | (with_reducible first | exact HB.out | apply bal | apply pbd | apply bd1 | refine bst ?_ GE242.out | refine bst ?_ GE243.out) | exact HB.out)⟩⟩
       ·rw [if_neg c39] at H
        have c39b0 : (a0.toList == ([97, 98, 115] : List UInt8)) = false := beq_eq_false_iff_ne.mpr c39
        have c39b1 : (a0.toList != ([97, 98, 115] : List UInt8)) = true := bne_iff_ne.mpr c39
        by_cases c40 : a0.toList = ([102, 108, 111, 111, 114] : List UInt8)
        ·rw [if_pos c40] at H
         have c40b0 : (a0.toList == ([102, 108, 111, 111, 114] : List UInt8)) = true := beq_iff_eq.mpr c40
         have c40b1 : (a0.toList != ([102, 108, 111, 111, 114] : List UInt8)) = false := bne_eq_false_iff_eq.mpr c40
         clear c40
         have H' := Sd.mk H
         clear H
         go_wp2
         go_meet
         case rel => exact ⟨_, (0), (0), H', ⟨by first | omega | exact Nat.le_refl _⟩, ⟨by (with_reducible repeat (first | refine blk_drewN ?_ _ | refine blk_drew ?_ | refine blk_alloc ?_ _)); exact BK242.out⟩, ⟨by (with_reducible repeat (first | refine blk_drewN ?_ _ | refine blk_drew ?_ | refine blk_alloc ?_ _)); exact BK243.out⟩, ⟨by repeat (first | (with_reducible first | exact HB.out | apply bal | apply pbd | apply bd1 | refine bst ?_ GE242.out | refine bst ?_ GE243.out) | exact HB.out)⟩⟩
        ·rw [if_neg c40] at H
         have c40b0 : (a0.toList == ([102, 108, 111, 111, 114] : List UInt8)) = false := beq_eq_false_iff_ne.mpr c40
         have c40b1 : (a0.toList != ([102, 108, 111, 111, 114] : List UInt8)) = true := bne_iff_ne.mpr c40
         by_cases c41 : a0.toList = ([33] : List UInt8)
         ·rw [if_pos c41] at H
          have c41b0 : (a0.toList == ([33] : List UInt8)) = true := beq_iff_eq.mpr c41
          have c41b1 : (a0.toList != ([33] : List UInt8)) = false := bne_eq_false_iff_eq.mpr c41
          clear c41
          have H' := Sd.mk H
          clear H
          go_wp2
          go_meet
          case rel => exact ⟨_, (0), (0), H', ⟨by first | omega | exact Nat.le_refl _⟩, ⟨by (with_reducible repeat (first | refine blk_drewN ?_ _ | refine blk_drew ?_ | refine blk_alloc ?_ _)); exact BK242.out⟩, ⟨by (with_reducible repeat (first | refine blk_drewN ?_ _ | refine blk_drew ?_ | refine blk_alloc ?_ _)); exact BK243.out⟩, ⟨by repeat (first | (with_reducible first | exact HB.out | apply bal | apply pbd | apply bd1 | refine bst ?_ GE242.out | refine bst ?_ GE243.out) | exact HB.out)⟩⟩
         ·rw [if_neg c41] at H
          have c41b0 : (a0.toList == ([33] : List UInt8)) = false := beq_eq_false_iff_ne.mpr c41
          have c41b1 : (a0.toList != ([33] : List UInt8)) = true := bne_iff_ne.mpr c41
          simp only [Option.some.injEq, Prod.mk.injEq] at H
          obtain ⟨rfl, rfl, rfl⟩ := H
          have hnb42 := NB243_242.out
          have hnc42 := NB242_243.out
          have hcz43_0 : w5.cell? ⟨gb243, 0, none⟩ = some (.int .i64 0) := (blk_cell BK243.out 0).trans rfl
          have hcz43_1 : w5.cell? ⟨gb243, 1, none⟩ = some (.int .i64 0) := (blk_cell BK243.out 1).trans rfl
          have hfz43_0 := blk_frozen BK243.out 0
          have hfz43_1 := blk_frozen BK243.out 1
          go_wp2
          refine bodyPost_ret (results_ct rfl _ _ gb243 25 #[.int .i64 0, .int .i64 0] (0, 0) _ rfl (by (with_reducible repeat (first | refine blk_drewN ?_ _ | refine blk_drew ?_ | refine blk_alloc ?_ _)); refine blk_put (cs := #[.int .i64 0, .int .i64 0]) ?_ 1 _ rfl; (with_reducible repeat (first | refine blk_drewN ?_ _ | refine blk_drew ?_ | refine blk_alloc ?_ _)); refine blk_put (cs := #[.int .i64 0, .int .i64 0]) ?_ 0 _ rfl; (with_reducible repeat (first | refine blk_drewN ?_ _ | refine blk_drew ?_ | refine blk_alloc ?_ _)); exact BK243.out) Tryz.underlying25 rfl (by kernel_rfl)) rfl ?_
          exact ⟨by first | rfl | (simp [errW_none, errW_some] <;> rfl) | (simp [*, errW_none, errW_some] <;> rfl), by repeat (first | (with_reducible first | exact HB.out | apply bal | apply pbd | apply bd1 | refine bst ?_ GE242.out | refine bst ?_ GE243.out) | exact HB.out)⟩
 case rest =>
  clear HC3
  try clear c1
  try clear c2
  try clear p2
  try clear c3
  try clear c4
  try clear c6
  try clear c6b0
  try clear c6b1
  try clear c8
  try clear c12
  try clear c12b0
  try clear c12b1
  try clear c14
  try clear c18
  try clear c18b0
  try clear c18b1
  try clear c19
  try clear c19b0
  try clear c19b1
  try clear c21
  try clear c22
  try clear c26
  try clear c30
  try clear c30b0
  try clear c30b1
  try clear c33
  try clear c38
  try clear c38b0
  try clear c38b1
  try clear c39
  try clear c39b0
  try clear c39b1
  try clear c40
  try clear c40b0
  try clear c40b1
  try clear c41
  try clear c41b0
  try clear c41b1
  try clear c42
  try clear hcz11_0
  try clear hcz11_1
  try clear hcz15_0
  try clear hcz15_1
  try clear hcz17_0
  try clear hcz17_1
  try clear hcz22_0
  try clear hcz22_1
  try clear hcz24_0
  try clear hcz24_1
  try clear hcz27_0
  try clear hcz27_1
  try clear hcz29_0
  try clear hcz29_1
  try clear hcz34_0
  try clear hcz34_1
  try clear hcz37_0
  try clear hcz37_1
  try clear hcz43_0
  try clear hcz43_1
  try clear hcz9_0
  try clear hcz9_1
  try clear hfz11_0
  try clear hfz11_1
  try clear hfz15_0
  try clear hfz15_1
  try clear hfz17_0
  try clear hfz17_1
  try clear hfz22_0
  try clear hfz22_1
  try clear hfz24_0
  try clear hfz24_1
  try clear hfz27_0
  try clear hfz27_1
  try clear hfz29_0
  try clear hfz29_1
  try clear hfz34_0
  try clear hfz34_1
  try clear hfz37_0
  try clear hfz37_1
  try clear hfz43_0
  try clear hfz43_1
  try clear hfz9_0
  try clear hfz9_1
  obtain ⟨kq, x244000_2, x244001_2, HA, HJ2, BK242, BK243, HB⟩ := hcut
  cases kq with
  | zero => exact absurd HA.out (by simp [r8_one.j0])
  | succ kj2 =>
   have H := HA.out
   clear HA
   simp only [r8_one.j0] at H
   by_cases c44 : a1_0 = 2
   ·rw [if_pos c44] at H
    have c44b0 : (a1_0 == 2) = true := beq_iff_eq.mpr c44
    have c44b1 : (a1_0 != 2) = false := bne_eq_false_iff_eq.mpr c44
    clear c44
    simp only [Option.some.injEq, Prod.mk.injEq] at H
    obtain ⟨rfl, rfl, rfl⟩ := H
    have hnb45 := NB242_243.out
    have hnc45 := NB243_242.out
    have hcz46_0 : wc.cell? ⟨gb242, 0, none⟩ = some (.int .i64 a1_0) := (blk_cell BK242.out 0).trans rfl
    have hcz46_1 : wc.cell? ⟨gb242, 1, none⟩ = some (.int .i64 a1_1) := (blk_cell BK242.out 1).trans rfl
    have hfz46_0 := blk_frozen BK242.out 0
    have hfz46_1 := blk_frozen BK242.out 1
    have hcz47_0 : wc.cell? ⟨gb243, 0, none⟩ = some (.int .i64 x244000_2) := (blk_cell BK243.out 0).trans rfl
    have hcz47_1 : wc.cell? ⟨gb243, 1, none⟩ = some (.int .i64 x244001_2) := (blk_cell BK243.out 1).trans rfl
    have hfz47_0 := blk_frozen BK243.out 0
    have hfz47_1 := blk_frozen BK243.out 1
    go_wp2
    refine bodyPost_ret (results_ct rfl _ _ gb243 25 #[.int .i64 a1_0, .int .i64 a1_1] (0, 0) _ rfl (by (with_reducible repeat (first | refine blk_drewN ?_ _ | refine blk_drew ?_ | refine blk_alloc ?_ _)); refine blk_put (cs := #[.int .i64 a1_0, .int .i64 x244001_2]) ?_ 1 _ rfl; (with_reducible repeat (first | refine blk_drewN ?_ _ | refine blk_drew ?_ | refine blk_alloc ?_ _)); refine blk_put (cs := #[.int .i64 x244000_2, .int .i64 x244001_2]) ?_ 0 _ rfl; (with_reducible repeat (first | refine blk_drewN ?_ _ | refine blk_drew ?_ | refine blk_alloc ?_ _)); exact BK243.out) Tryz.underlying25 rfl (by kernel_rfl)) rfl ?_
    exact ⟨by first | rfl | (simp [errW_none, errW_some] <;> rfl) | (simp [*, errW_none, errW_some] <;> rfl), by repeat (first | (with_reducible first | exact HB.out | apply bal | apply pbd | apply bd1 | refine bst ?_ GE242.out | refine bst ?_ GE243.out) | exact HB.out)⟩
   ·rw [if_neg c44] at H
    have c44b0 : (a1_0 == 2) = false := beq_eq_false_iff_ne.mpr c44
    have c44b1 : (a1_0 != 2) = true := bne_iff_ne.mpr c44
    by_cases c48 : a0.toList = ([33] : List UInt8)
    ·rw [if_pos c48] at H
     have c48b0 : (a0.toList == ([33] : List UInt8)) = true := beq_iff_eq.mpr c48
     have c48b1 : (a0.toList != ([33] : List UInt8)) = false := bne_eq_false_iff_eq.mpr c48
     clear c48
     replace H := Option.bind_eq_some_iff.mp H
     obtain ⟨t255, A490, H⟩ := H
     replace H : ((r8_Truth.f (!t255)).bind fun bt256 => (some (bt256.1, bt256.2, true))) = some (r1, r2, r3) := H
     have A49 := Sd.mk A490
     clear A490
     replace H := Option.bind_eq_some_iff.mp H
     obtain ⟨⟨t256, t257⟩, A500, H⟩ := H
     replace H : (some (t256, t257, true)) = some (r1, r2, r3) := H
     have A50 := Sd.mk A500
     clear A500
     simp only [Option.some.injEq, Prod.mk.injEq] at H
     obtain ⟨rfl, rfl, rfl⟩ := H
     have hnb51 := NB242_243.out
     have hnc51 := NB243_242.out
     have hcz52_0 : wc.cell? ⟨gb242, 0, none⟩ = some (.int .i64 a1_0) := (blk_cell BK242.out 0).trans rfl
     have hcz52_1 : wc.cell? ⟨gb242, 1, none⟩ = some (.int .i64 a1_1) := (blk_cell BK242.out 1).trans rfl
     have hfz52_0 := blk_frozen BK242.out 0
     have hfz52_1 := blk_frozen BK242.out 1
     go_wp2_with (first | ((with_reducible refine gate_callee (f := 15) rfl ?_); refine goesL_ (some 50) rfl rfl Tryz.func15 (by kernel_rfl) rfl #[.agg #[.int .i64 a1_0, .int .i64 a1_1]] rfl (by (try simp only [List.map_toArray, List.map_cons, List.map_nil]); first | done | rfl | (simp only [List.length_drop, List.length_take]; rfl)) ?_; (with_reducible refine (r8_True.calls a1_0 a1_1 t255 _ A49.out).mono ?_); rintro e w53 ⟨rfl, hb⟩; refine ⟨_, rfl, ?_⟩; have n0_ := Sd.mk (blk_below (g := gb242) (o := .cells #[.int .i64 a1_0, .int .i64 a1_1] 25 (0, 0)) (by exact blkF BK242.out) hb); have n1_ := Sd.mk (blk_below (g := gb243) (o := .cells #[.int .i64 x244000_2, .int .i64 x244001_2] 25 (0, 0)) (by exact blkF BK243.out) hb); have n2_ := Sd.mk (below_step (by repeat (first | (with_reducible first | exact HB.out | apply bal | apply pbd | apply bd1 | refine bst ?_ GE242.out | refine bst ?_ GE243.out) | exact HB.out)) hb); clear BK242; clear BK243; clear HB; have BK242 := n0_; have BK243 := n1_; have HB := n2_; clear n0_ n1_ n2_; (try clear hb); (try clear hb2); (try clear hk); (try clear hi)) | ((with_reducible refine gate_callee (f := 22) rfl ?_); refine goesL_ (some 52) rfl rfl Tryz.func22 (by kernel_rfl) rfl #[.bool (!t255)] rfl (by (try simp only [List.map_toArray, List.map_cons, List.map_nil]); first | done | rfl | (simp only [List.length_drop, List.length_take]; rfl)) ?_; (with_reducible refine (r8_Truth.calls (!t255) t256 t257 _ A50.out).mono ?_); rintro e w54 ⟨rfl, hb⟩; refine ⟨_, rfl, ?_⟩; have n0_ := Sd.mk (blk_below (g := gb242) (o := .cells #[.int .i64 a1_0, .int .i64 a1_1] 25 (0, 0)) (by exact blkF BK242.out) hb); have n1_ := Sd.mk (blk_below (g := gb243) (o := .cells #[.int .i64 x244000_2, .int .i64 x244001_2] 25 (0, 0)) (by exact blkF BK243.out) hb); have n2_ := Sd.mk (below_step (by repeat (first | (with_reducible first | exact HB.out | apply bal | apply pbd | apply bd1 | refine bst ?_ GE242.out | refine bst ?_ GE243.out) | exact HB.out)) hb); clear BK242; clear BK243; clear HB; have BK242 := n0_; have BK243 := n1_; have HB := n2_; clear n0_ n1_ n2_; (try clear hb); (try clear hb2); (try clear hk); (try clear hi); have hcz55_0 : w54.cell? ⟨gb243, 0, none⟩ = some (.int .i64 x244000_2) := (blk_cell BK243.out 0).trans rfl; have hcz55_1 : w54.cell? ⟨gb243, 1, none⟩ = some (.int .i64 x244001_2) := (blk_cell BK243.out 1).trans rfl; have hfz55_0 := blk_frozen BK243.out 0; have hfz55_1 := blk_frozen BK243.out 1))
     refine bodyPost_ret (results_ct rfl _ _ gb243 25 #[.int .i64 t256, .int .i64 t257] (0, 0) _ rfl (by (with_reducible repeat (first | refine blk_drewN ?_ _ | refine blk_drew ?_ | refine blk_alloc ?_ _)); refine blk_put (cs := #[.int .i64 t256, .int .i64 x244001_2]) ?_ 1 _ rfl; (with_reducible repeat (first | refine blk_drewN ?_ _ | refine blk_drew ?_ | refine blk_alloc ?_ _)); refine blk_put (cs := #[.int .i64 x244000_2, .int .i64 x244001_2]) ?_ 0 _ rfl; (with_reducible repeat (first | refine blk_drewN ?_ _ | refine blk_drew ?_ | refine blk_alloc ?_ _)); exact BK243.out) Tryz.underlying25 rfl (by kernel_rfl)) rfl ?_
     exact ⟨by first | rfl | (simp [errW_none, errW_some] <;> rfl) | (simp [*, errW_none, errW_some] <;> rfl), by repeat (first | (with_reducible first | exact HB.out | apply bal | apply pbd | apply bd1 | refine bst ?_ GE242.out | refine bst ?_ GE243.out) | exact HB.out)⟩
    ·rw [if_neg c48] at H
     have c48b0 : (a0.toList == ([33] : List UInt8)) = false := beq_eq_false_iff_ne.mpr c48
     have c48b1 : (a0.toList != ([33] : List UInt8)) = true := bne_iff_ne.mpr c48
     by_cases c56 : a1_0 = 3
     ·rw [if_pos c56] at H
      have c56b0 : (a1_0 == 3) = true := beq_iff_eq.mpr c56
      have c56b1 : (a1_0 != 3) = false := bne_eq_false_iff_eq.mpr c56
      clear c56
      simp only [Option.some.injEq, Prod.mk.injEq] at H
      obtain ⟨rfl, rfl, rfl⟩ := H
      have hnb57 := NB242_243.out
      have hnc57 := NB243_242.out
      have hcz58_0 : wc.cell? ⟨gb242, 0, none⟩ = some (.int .i64 a1_0) := (blk_cell BK242.out 0).trans rfl
      have hcz58_1 : wc.cell? ⟨gb242, 1, none⟩ = some (.int .i64 a1_1) := (blk_cell BK242.out 1).trans rfl
      have hfz58_0 := blk_frozen BK242.out 0
      have hfz58_1 := blk_frozen BK242.out 1
      have hcz59_0 : wc.cell? ⟨gb243, 0, none⟩ = some (.int .i64 x244000_2) := (blk_cell BK243.out 0).trans rfl
      have hcz59_1 : wc.cell? ⟨gb243, 1, none⟩ = some (.int .i64 x244001_2) := (blk_cell BK243.out 1).trans rfl
      have hfz59_0 := blk_frozen BK243.out 0
      have hfz59_1 := blk_frozen BK243.out 1
      go_wp2
      refine bodyPost_ret (results_ct rfl _ _ gb243 25 #[.int .i64 a1_0, .int .i64 a1_1] (0, 0) _ rfl (by (with_reducible repeat (first | refine blk_drewN ?_ _ | refine blk_drew ?_ | refine blk_alloc ?_ _)); refine blk_put (cs := #[.int .i64 a1_0, .int .i64 x244001_2]) ?_ 1 _ rfl; (with_reducible repeat (first | refine blk_drewN ?_ _ | refine blk_drew ?_ | refine blk_alloc ?_ _)); refine blk_put (cs := #[.int .i64 x244000_2, .int .i64 x244001_2]) ?_ 0 _ rfl; (with_reducible repeat (first | refine blk_drewN ?_ _ | refine blk_drew ?_ | refine blk_alloc ?_ _)); exact BK243.out) Tryz.underlying25 rfl (by kernel_rfl)) rfl ?_
      exact ⟨by first | rfl | (simp [errW_none, errW_some] <;> rfl) | (simp [*, errW_none, errW_some] <;> rfl), by repeat (first | (with_reducible first | exact HB.out | apply bal | apply pbd | apply bd1 | refine bst ?_ GE242.out | refine bst ?_ GE243.out) | exact HB.out)⟩
     ·rw [if_neg c56] at H
      have c56b0 : (a1_0 == 3) = false := beq_eq_false_iff_ne.mpr c56
      have c56b1 : (a1_0 != 3) = true := bne_iff_ne.mpr c56
      have HC60 := Sd.mk H
      clear H
      have hnb61 := NB242_243.out
      have hnc61 := NB243_242.out
      have hcz62_0 : wc.cell? ⟨gb242, 0, none⟩ = some (.int .i64 a1_0) := (blk_cell BK242.out 0).trans rfl
      have hcz62_1 : wc.cell? ⟨gb242, 1, none⟩ = some (.int .i64 a1_1) := (blk_cell BK242.out 1).trans rfl
      have hfz62_0 := blk_frozen BK242.out 0
      have hfz62_1 := blk_frozen BK242.out 1
      go_upto_region 21 with (fail)
      go_cut [58] (fun v58 wc => ∃ (kq : Nat) (x58_59 : Bool), v58 = .bool x58_59 ∧ Sd (r8_one.j1 kq a0 x58_59 a1_0 a1_1 = some (r1, r2, r3)) ∧ Sd (kq ≤ kj2) ∧ Sd (wc.heap[gb242]? = some (.cells #[.int .i64 a1_0, .int .i64 a1_1] 25 (0, 0))) ∧ Sd (wc.heap[gb243]? = some (.cells #[.int .i64 x244000_2, .int .i64 x244001_2] 25 (0, 0))) ∧ Sd (Below w.heap.size w wc))
      case first =>
       have H := HC60.out
       clear HC60
       by_cases c63 : a0.toList = ([45] : List UInt8)
       ·rw [if_pos c63] at H
        have c63b0 : (a0.toList == ([45] : List UInt8)) = true := beq_iff_eq.mpr c63
        have c63b1 : (a0.toList != ([45] : List UInt8)) = false := bne_eq_false_iff_eq.mpr c63
        clear c63
        (first | rw [c63b0] | (simp only [i64_w, i32_w]; rw [c63b0]) | skip)
        have H' := Sd.mk H
        clear H
        go_wp2
        go_meet
        case rel => exact ⟨_, (true), (by first | rfl | (simp; done) | (simp [*]; done)), H', ⟨by have := HJ2.out; first | omega | exact Nat.le_refl _⟩, ⟨by (with_reducible repeat (first | refine blk_drewN ?_ _ | refine blk_drew ?_ | refine blk_alloc ?_ _)); exact BK242.out⟩, ⟨by (with_reducible repeat (first | refine blk_drewN ?_ _ | refine blk_drew ?_ | refine blk_alloc ?_ _)); exact BK243.out⟩, ⟨by repeat (first | (with_reducible first | exact HB.out | apply bal | apply pbd | apply bd1 | refine bst ?_ GE242.out | refine bst ?_ GE243.out) | exact HB.out)⟩⟩
       ·rw [if_neg c63] at H
        have c63b0 : (a0.toList == ([45] : List UInt8)) = false := beq_eq_false_iff_ne.mpr c63
        have c63b1 : (a0.toList != ([45] : List UInt8)) = true := bne_iff_ne.mpr c63
        (first | rw [c63b0] | (simp only [i64_w, i32_w]; rw [c63b0]) | skip)
        by_cases c64 : a0.toList = ([97, 98, 115] : List UInt8)
        ·rw [if_pos c64] at H
         have c64b0 : (a0.toList == ([97, 98, 115] : List UInt8)) = true := beq_iff_eq.mpr c64
         have c64b1 : (a0.toList != ([97, 98, 115] : List UInt8)) = false := bne_eq_false_iff_eq.mpr c64
         clear c64
         replace H := Option.bind_eq_some_iff.mp H
         obtain ⟨t258, A650, H⟩ := H
         replace H : (r8_one.j1 kj2 a0 (decide (t258 < 0)) a1_0 a1_1) = some (r1, r2, r3) := H
         have A65 := Sd.mk A650
         clear A650
         have H' := Sd.mk H
         clear H
         have hnb66 := NB242_243.out
         have hnc66 := NB243_242.out
         have hcz67_0 : wc.cell? ⟨gb242, 0, none⟩ = some (.int .i64 a1_0) := (blk_cell BK242.out 0).trans rfl
         have hcz67_1 : wc.cell? ⟨gb242, 1, none⟩ = some (.int .i64 a1_1) := (blk_cell BK242.out 1).trans rfl
         have hfz67_0 := blk_frozen BK242.out 0
         have hfz67_1 := blk_frozen BK242.out 1
         go_wp2_with (first | (go_at_call 75; (with_reducible refine (r8_sign.calls kj2 a1_0 a1_1 t258 _ A65.out).mono ?_); rintro e w68 ⟨rfl, hb⟩; have n0_ := Sd.mk (blk_below (g := gb242) (o := .cells #[.int .i64 a1_0, .int .i64 a1_1] 25 (0, 0)) (by exact blkF BK242.out) hb); have n1_ := Sd.mk (blk_below (g := gb243) (o := .cells #[.int .i64 x244000_2, .int .i64 x244001_2] 25 (0, 0)) (by exact blkF BK243.out) hb); have n2_ := Sd.mk (below_step (by repeat (first | (with_reducible first | exact HB.out | apply bal | apply pbd | apply bd1 | refine bst ?_ GE242.out | refine bst ?_ GE243.out) | exact HB.out)) hb); clear BK242; clear BK243; clear HB; have BK242 := n0_; have BK243 := n1_; have HB := n2_; clear n0_ n1_ n2_; (try clear hb); (try clear hb2); (try clear hk); (try clear hi)))
         go_meet
         case rel => exact ⟨_, (decide (t258 < 0)), (by first | rfl | (simp; done) | (simp [*]; done)), H', ⟨by have := HJ2.out; first | omega | exact Nat.le_refl _⟩, ⟨by (with_reducible repeat (first | refine blk_drewN ?_ _ | refine blk_drew ?_ | refine blk_alloc ?_ _)); exact BK242.out⟩, ⟨by (with_reducible repeat (first | refine blk_drewN ?_ _ | refine blk_drew ?_ | refine blk_alloc ?_ _)); exact BK243.out⟩, ⟨by repeat (first | (with_reducible first | exact HB.out | apply bal | apply pbd | apply bd1 | refine bst ?_ GE242.out | refine bst ?_ GE243.out) | exact HB.out)⟩⟩
        ·rw [if_neg c64] at H
         have c64b0 : (a0.toList == ([97, 98, 115] : List UInt8)) = false := beq_eq_false_iff_ne.mpr c64
         have c64b1 : (a0.toList != ([97, 98, 115] : List UInt8)) = true := bne_iff_ne.mpr c64
         have H' := Sd.mk H
         clear H
         go_wp2
         go_meet
         case rel => exact ⟨_, (false), (by first | rfl | (simp; done) | (simp [*]; done)), H', ⟨by have := HJ2.out; first | omega | exact Nat.le_refl _⟩, ⟨by (with_reducible repeat (first | refine blk_drewN ?_ _ | refine blk_drew ?_ | refine blk_alloc ?_ _)); exact BK242.out⟩, ⟨by (with_reducible repeat (first | refine blk_drewN ?_ _ | refine blk_drew ?_ | refine blk_alloc ?_ _)); exact BK243.out⟩, ⟨by repeat (first | (with_reducible first | exact HB.out | apply bal | apply pbd | apply bd1 | refine bst ?_ GE242.out | refine bst ?_ GE243.out) | exact HB.out)⟩⟩
      case rest =>
       clear HC60
       try clear c1
       try clear c2
       try clear p2
       try clear c3
       try clear c4
       try clear c5
       try clear c6
       try clear c6b0
       try clear c6b1
       try clear c8
       try clear c12
       try clear c12b0
       try clear c12b1
       try clear c14
       try clear c15
       try clear c18
       try clear c18b0
       try clear c18b1
       try clear c19
       try clear c19b0
       try clear c19b1
       try clear c21
       try clear c22
       try clear c26
       try clear c30
       try clear c30b0
       try clear c30b1
       try clear c33
       try clear c38
       try clear c38b0
       try clear c38b1
       try clear c39
       try clear c39b0
       try clear c39b1
       try clear c40
       try clear c40b0
       try clear c40b1
       try clear c41
       try clear c41b0
       try clear c41b1
       try clear c42
       try clear c44
       try clear c44b0
       try clear c44b1
       try clear c45
       try clear c48
       try clear c48b0
       try clear c48b1
       try clear c51
       try clear c56
       try clear c56b0
       try clear c56b1
       try clear c57
       try clear c61
       try clear c63
       try clear c63b0
       try clear c63b1
       try clear c64
       try clear c64b0
       try clear c64b1
       try clear c66
       try clear hcz11_0
       try clear hcz11_1
       try clear hcz15_0
       try clear hcz15_1
       try clear hcz17_0
       try clear hcz17_1
       try clear hcz22_0
       try clear hcz22_1
       try clear hcz24_0
       try clear hcz24_1
       try clear hcz27_0
       try clear hcz27_1
       try clear hcz29_0
       try clear hcz29_1
       try clear hcz34_0
       try clear hcz34_1
       try clear hcz37_0
       try clear hcz37_1
       try clear hcz43_0
       try clear hcz43_1
       try clear hcz46_0
       try clear hcz46_1
       try clear hcz47_0
       try clear hcz47_1
       try clear hcz52_0
       try clear hcz52_1
       try clear hcz55_0
       try clear hcz55_1
       try clear hcz58_0
       try clear hcz58_1
       try clear hcz59_0
       try clear hcz59_1
       try clear hcz62_0
       try clear hcz62_1
       try clear hcz67_0
       try clear hcz67_1
       try clear hcz9_0
       try clear hcz9_1
       try clear hfz11_0
       try clear hfz11_1
       try clear hfz15_0
       try clear hfz15_1
       try clear hfz17_0
       try clear hfz17_1
       try clear hfz22_0
       try clear hfz22_1
       try clear hfz24_0
       try clear hfz24_1
       try clear hfz27_0
       try clear hfz27_1
       try clear hfz29_0
       try clear hfz29_1
       try clear hfz34_0
       try clear hfz34_1
       try clear hfz37_0
       try clear hfz37_1
       try clear hfz43_0
       try clear hfz43_1
       try clear hfz46_0
       try clear hfz46_1
       try clear hfz47_0
       try clear hfz47_1
       try clear hfz52_0
       try clear hfz52_1
       try clear hfz55_0
       try clear hfz55_1
       try clear hfz58_0
       try clear hfz58_1
       try clear hfz59_0
       try clear hfz59_1
       try clear hfz62_0
       try clear hfz62_1
       try clear hfz67_0
       try clear hfz67_1
       try clear hfz9_0
       try clear hfz9_1
       try clear p2
       obtain ⟨kq, x58_59, rfl, HA, HJ59, BK242, BK243, HB⟩ := hcut
       cases kq with
       | zero => exact absurd HA.out (by simp [r8_one.j1])
       | succ kj59 =>
        have H := HA.out
        clear HA
        simp only [r8_one.j1] at H
        by_cases c69 : x58_59 = true
        ·subst c69
         have H1 : ((r8_turned.f a1_0 a1_1).bind fun bt259 => (some (bt259.1, bt259.2, true))) = some (r1, r2, r3) := by rw [if_pos rfl] at H; exact H
         clear H
         have H := H1
         clear H1
         replace H := Option.bind_eq_some_iff.mp H
         obtain ⟨⟨t259, t260⟩, A700, H⟩ := H
         replace H : (some (t259, t260, true)) = some (r1, r2, r3) := H
         have A70 := Sd.mk A700
         clear A700
         simp only [Option.some.injEq, Prod.mk.injEq] at H
         obtain ⟨rfl, rfl, rfl⟩ := H
         have hnb71 := NB242_243.out
         have hnc71 := NB243_242.out
         have hcz72_0 : wc.cell? ⟨gb242, 0, none⟩ = some (.int .i64 a1_0) := (blk_cell BK242.out 0).trans rfl
         have hcz72_1 : wc.cell? ⟨gb242, 1, none⟩ = some (.int .i64 a1_1) := (blk_cell BK242.out 1).trans rfl
         have hfz72_0 := blk_frozen BK242.out 0
         have hfz72_1 := blk_frozen BK242.out 1
         go_wp2_with (first | ((with_reducible refine gate_callee (f := 76) rfl ?_); refine goesL_ (some 71) rfl rfl Tryz.func76 (by kernel_rfl) rfl #[.agg #[.int .i64 a1_0, .int .i64 a1_1]] rfl (by (try simp only [List.map_toArray, List.map_cons, List.map_nil]); first | done | rfl | (simp only [List.length_drop, List.length_take]; rfl)) ?_; (with_reducible refine (r8_turned.calls a1_0 a1_1 t259 t260 _ A70.out).mono ?_); rintro e w73 ⟨rfl, hb⟩; refine ⟨_, rfl, ?_⟩; have n0_ := Sd.mk (blk_below (g := gb242) (o := .cells #[.int .i64 a1_0, .int .i64 a1_1] 25 (0, 0)) (by exact blkF BK242.out) hb); have n1_ := Sd.mk (blk_below (g := gb243) (o := .cells #[.int .i64 x244000_2, .int .i64 x244001_2] 25 (0, 0)) (by exact blkF BK243.out) hb); have n2_ := Sd.mk (below_step (by repeat (first | (with_reducible first | exact HB.out | apply bal | apply pbd | apply bd1 | refine bst ?_ GE242.out | refine bst ?_ GE243.out) | exact HB.out)) hb); clear BK242; clear BK243; clear HB; have BK242 := n0_; have BK243 := n1_; have HB := n2_; clear n0_ n1_ n2_; (try clear hb); (try clear hb2); (try clear hk); (try clear hi); have hcz74_0 : w73.cell? ⟨gb243, 0, none⟩ = some (.int .i64 x244000_2) := (blk_cell BK243.out 0).trans rfl; have hcz74_1 : w73.cell? ⟨gb243, 1, none⟩ = some (.int .i64 x244001_2) := (blk_cell BK243.out 1).trans rfl; have hfz74_0 := blk_frozen BK243.out 0; have hfz74_1 := blk_frozen BK243.out 1))
         refine bodyPost_ret (results_ct rfl _ _ gb243 25 #[.int .i64 t259, .int .i64 t260] (0, 0) _ rfl (by (with_reducible repeat (first | refine blk_drewN ?_ _ | refine blk_drew ?_ | refine blk_alloc ?_ _)); refine blk_put (cs := #[.int .i64 t259, .int .i64 x244001_2]) ?_ 1 _ rfl; (with_reducible repeat (first | refine blk_drewN ?_ _ | refine blk_drew ?_ | refine blk_alloc ?_ _)); refine blk_put (cs := #[.int .i64 x244000_2, .int .i64 x244001_2]) ?_ 0 _ rfl; (with_reducible repeat (first | refine blk_drewN ?_ _ | refine blk_drew ?_ | refine blk_alloc ?_ _)); exact BK243.out) Tryz.underlying25 rfl (by kernel_rfl)) rfl ?_
         exact ⟨by first | rfl | (simp [errW_none, errW_some] <;> rfl) | (simp [*, errW_none, errW_some] <;> rfl), by repeat (first | (with_reducible first | exact HB.out | apply bal | apply pbd | apply bd1 | refine bst ?_ GE242.out | refine bst ?_ GE243.out) | exact HB.out)⟩
        ·replace c69 := Bool.eq_false_iff.mpr c69
         subst c69
         have H1 : (if a0.toList = ([102, 108, 111, 111, 114] : List UInt8) then ((r8_num.f a1_0 a1_1).bind fun t261 => (r8_one.j2 kj59 t261 a1_0 a1_1)) else (r8_one.j2 kj59 false a1_0 a1_1)) = some (r1, r2, r3) := by rw [if_neg (show ¬ (false = true) by decide)] at H; exact H
         clear H
         have H := H1
         clear H1
         have HC75 := Sd.mk H
         clear H
         go_upto_region 23 with (fail)
         go_cut [72] (fun v72 wc => ∃ (kq : Nat) (x72_74 : Bool), v72 = .bool x72_74 ∧ Sd (r8_one.j2 kq x72_74 a1_0 a1_1 = some (r1, r2, r3)) ∧ Sd (kq ≤ kj59) ∧ Sd (wc.heap[gb242]? = some (.cells #[.int .i64 a1_0, .int .i64 a1_1] 25 (0, 0))) ∧ Sd (wc.heap[gb243]? = some (.cells #[.int .i64 x244000_2, .int .i64 x244001_2] 25 (0, 0))) ∧ Sd (Below w.heap.size w wc))
         case first =>
          have H := HC75.out
          clear HC75
          by_cases c76 : a0.toList = ([102, 108, 111, 111, 114] : List UInt8)
          ·rw [if_pos c76] at H
           have c76b0 : (a0.toList == ([102, 108, 111, 111, 114] : List UInt8)) = true := beq_iff_eq.mpr c76
           have c76b1 : (a0.toList != ([102, 108, 111, 111, 114] : List UInt8)) = false := bne_eq_false_iff_eq.mpr c76
           clear c76
           (first | rw [c76b0] | (simp only [i64_w, i32_w]; rw [c76b0]) | skip)
           replace H := Option.bind_eq_some_iff.mp H
           obtain ⟨t261, A770, H⟩ := H
           replace H : (r8_one.j2 kj59 t261 a1_0 a1_1) = some (r1, r2, r3) := H
           have A77 := Sd.mk A770
           clear A770
           have H' := Sd.mk H
           clear H
           have hnb78 := NB242_243.out
           have hnc78 := NB243_242.out
           have hcz79_0 : wc.cell? ⟨gb242, 0, none⟩ = some (.int .i64 a1_0) := (blk_cell BK242.out 0).trans rfl
           have hcz79_1 : wc.cell? ⟨gb242, 1, none⟩ = some (.int .i64 a1_1) := (blk_cell BK242.out 1).trans rfl
           have hfz79_0 := blk_frozen BK242.out 0
           have hfz79_1 := blk_frozen BK242.out 1
           go_wp2_with (first | (go_at_call 48; (with_reducible refine (r8_num.calls a1_0 a1_1 t261 _ A77.out).mono ?_); rintro e w80 ⟨rfl, hb⟩; have n0_ := Sd.mk (blk_below (g := gb242) (o := .cells #[.int .i64 a1_0, .int .i64 a1_1] 25 (0, 0)) (by exact blkF BK242.out) hb); have n1_ := Sd.mk (blk_below (g := gb243) (o := .cells #[.int .i64 x244000_2, .int .i64 x244001_2] 25 (0, 0)) (by exact blkF BK243.out) hb); have n2_ := Sd.mk (below_step (by repeat (first | (with_reducible first | exact HB.out | apply bal | apply pbd | apply bd1 | refine bst ?_ GE242.out | refine bst ?_ GE243.out) | exact HB.out)) hb); clear BK242; clear BK243; clear HB; have BK242 := n0_; have BK243 := n1_; have HB := n2_; clear n0_ n1_ n2_; (try clear hb); (try clear hb2); (try clear hk); (try clear hi)))
           go_meet
           case rel => exact ⟨_, (t261), (by first | rfl | (simp; done) | (simp [*]; done)), H', ⟨by have := HJ2.out; have := HJ59.out; first | omega | exact Nat.le_refl _⟩, ⟨by (with_reducible repeat (first | refine blk_drewN ?_ _ | refine blk_drew ?_ | refine blk_alloc ?_ _)); exact BK242.out⟩, ⟨by (with_reducible repeat (first | refine blk_drewN ?_ _ | refine blk_drew ?_ | refine blk_alloc ?_ _)); exact BK243.out⟩, ⟨by repeat (first | (with_reducible first | exact HB.out | apply bal | apply pbd | apply bd1 | refine bst ?_ GE242.out | refine bst ?_ GE243.out) | exact HB.out)⟩⟩
          ·rw [if_neg c76] at H
           have c76b0 : (a0.toList == ([102, 108, 111, 111, 114] : List UInt8)) = false := beq_eq_false_iff_ne.mpr c76
           have c76b1 : (a0.toList != ([102, 108, 111, 111, 114] : List UInt8)) = true := bne_iff_ne.mpr c76
           (first | rw [c76b0] | (simp only [i64_w, i32_w]; rw [c76b0]) | skip)
           have H' := Sd.mk H
           clear H
           go_wp2
           go_meet
           case rel => exact ⟨_, (false), (by first | rfl | (simp; done) | (simp [*]; done)), H', ⟨by have := HJ2.out; have := HJ59.out; first | omega | exact Nat.le_refl _⟩, ⟨by (with_reducible repeat (first | refine blk_drewN ?_ _ | refine blk_drew ?_ | refine blk_alloc ?_ _)); exact BK242.out⟩, ⟨by (with_reducible repeat (first | refine blk_drewN ?_ _ | refine blk_drew ?_ | refine blk_alloc ?_ _)); exact BK243.out⟩, ⟨by repeat (first | (with_reducible first | exact HB.out | apply bal | apply pbd | apply bd1 | refine bst ?_ GE242.out | refine bst ?_ GE243.out) | exact HB.out)⟩⟩
         case rest =>
          clear HC75
          try clear c1
          try clear c2
          try clear p2
          try clear c3
          try clear c4
          try clear c5
          try clear c6
          try clear c6b0
          try clear c6b1
          try clear c7
          try clear c8
          try clear c12
          try clear c12b0
          try clear c12b1
          try clear c14
          try clear c15
          try clear c18
          try clear c18b0
          try clear c18b1
          try clear c19
          try clear c19b0
          try clear c19b1
          try clear c21
          try clear c22
          try clear c26
          try clear c30
          try clear c30b0
          try clear c30b1
          try clear c33
          try clear c38
          try clear c38b0
          try clear c38b1
          try clear c39
          try clear c39b0
          try clear c39b1
          try clear c40
          try clear c40b0
          try clear c40b1
          try clear c41
          try clear c41b0
          try clear c41b1
          try clear c42
          try clear c44
          try clear c44b0
          try clear c44b1
          try clear c45
          try clear c48
          try clear c48b0
          try clear c48b1
          try clear c51
          try clear c56
          try clear c56b0
          try clear c56b1
          try clear c57
          try clear c61
          try clear c63
          try clear c63b0
          try clear c63b1
          try clear c64
          try clear c64b0
          try clear c64b1
          try clear c66
          try clear c69
          try clear c71
          try clear c76
          try clear c76b0
          try clear c76b1
          try clear c78
          try clear hcz11_0
          try clear hcz11_1
          try clear hcz15_0
          try clear hcz15_1
          try clear hcz17_0
          try clear hcz17_1
          try clear hcz22_0
          try clear hcz22_1
          try clear hcz24_0
          try clear hcz24_1
          try clear hcz27_0
          try clear hcz27_1
          try clear hcz29_0
          try clear hcz29_1
          try clear hcz34_0
          try clear hcz34_1
          try clear hcz37_0
          try clear hcz37_1
          try clear hcz43_0
          try clear hcz43_1
          try clear hcz46_0
          try clear hcz46_1
          try clear hcz47_0
          try clear hcz47_1
          try clear hcz52_0
          try clear hcz52_1
          try clear hcz55_0
          try clear hcz55_1
          try clear hcz58_0
          try clear hcz58_1
          try clear hcz59_0
          try clear hcz59_1
          try clear hcz62_0
          try clear hcz62_1
          try clear hcz67_0
          try clear hcz67_1
          try clear hcz72_0
          try clear hcz72_1
          try clear hcz74_0
          try clear hcz74_1
          try clear hcz79_0
          try clear hcz79_1
          try clear hcz9_0
          try clear hcz9_1
          try clear hfz11_0
          try clear hfz11_1
          try clear hfz15_0
          try clear hfz15_1
          try clear hfz17_0
          try clear hfz17_1
          try clear hfz22_0
          try clear hfz22_1
          try clear hfz24_0
          try clear hfz24_1
          try clear hfz27_0
          try clear hfz27_1
          try clear hfz29_0
          try clear hfz29_1
          try clear hfz34_0
          try clear hfz34_1
          try clear hfz37_0
          try clear hfz37_1
          try clear hfz43_0
          try clear hfz43_1
          try clear hfz46_0
          try clear hfz46_1
          try clear hfz47_0
          try clear hfz47_1
          try clear hfz52_0
          try clear hfz52_1
          try clear hfz55_0
          try clear hfz55_1
          try clear hfz58_0
          try clear hfz58_1
          try clear hfz59_0
          try clear hfz59_1
          try clear hfz62_0
          try clear hfz62_1
          try clear hfz67_0
          try clear hfz67_1
          try clear hfz72_0
          try clear hfz72_1
          try clear hfz74_0
          try clear hfz74_1
          try clear hfz79_0
          try clear hfz79_1
          try clear hfz9_0
          try clear hfz9_1
          try clear p2
          obtain ⟨kq, x72_74, rfl, HA, HJ74, BK242, BK243, HB⟩ := hcut
          cases kq with
          | zero => exact absurd HA.out (by simp [r8_one.j2])
          | succ kj74 =>
           have H := HA.out
           clear HA
           simp only [r8_one.j2] at H
           by_cases c81 : x72_74 = true
           ·subst c81
            have H1 : (if (Int.tmod a1_1 1000) < 0 then ((r8_Num.f (wrap64 (a1_1 - (wrap64 ((Int.tmod a1_1 1000) + 1000))))).bind fun bt262 => (some (bt262.1, bt262.2, true))) else ((r8_Num.f (wrap64 (a1_1 - (Int.tmod a1_1 1000)))).bind fun bt264 => (some (bt264.1, bt264.2, true)))) = some (r1, r2, r3) := by rw [if_pos rfl] at H; exact H
            clear H
            have H := H1
            clear H1
            by_cases c82 : (Int.tmod a1_1 1000) < 0
            ·rw [if_pos c82] at H
             have c82b0 : decide ((Int.tmod a1_1 1000) < 0) = true := decide_eq_true c82
             clear c82
             replace H := Option.bind_eq_some_iff.mp H
             obtain ⟨⟨t262, t263⟩, A830, H⟩ := H
             replace H : (some (t262, t263, true)) = some (r1, r2, r3) := H
             have A83 := Sd.mk A830
             clear A830
             simp only [Option.some.injEq, Prod.mk.injEq] at H
             obtain ⟨rfl, rfl, rfl⟩ := H
             have hnb84 := NB242_243.out
             have hnc84 := NB243_242.out
             have hcz85_0 : wc.cell? ⟨gb242, 0, none⟩ = some (.int .i64 a1_0) := (blk_cell BK242.out 0).trans rfl
             have hcz85_1 : wc.cell? ⟨gb242, 1, none⟩ = some (.int .i64 a1_1) := (blk_cell BK242.out 1).trans rfl
             have hfz85_0 := blk_frozen BK242.out 0
             have hfz85_1 := blk_frozen BK242.out 1
             go_wp2_with (first | ((with_reducible refine gate_callee (f := 20) rfl ?_); refine goesL_ (some 90) rfl rfl Tryz.func20 (by kernel_rfl) rfl #[.int .i64 (wrap64 (a1_1 - (wrap64 ((Int.tmod a1_1 1000) + 1000))))] rfl (by (try simp only [List.map_toArray, List.map_cons, List.map_nil]); first | done | rfl | (simp only [List.length_drop, List.length_take]; rfl)) ?_; (with_reducible refine (r8_Num.calls (wrap64 (a1_1 - (wrap64 ((Int.tmod a1_1 1000) + 1000)))) t262 t263 _ A83.out).mono ?_); rintro e w86 ⟨rfl, hb⟩; refine ⟨_, rfl, ?_⟩; have n0_ := Sd.mk (blk_below (g := gb242) (o := .cells #[.int .i64 a1_0, .int .i64 a1_1] 25 (0, 0)) (by exact blkF BK242.out) hb); have n1_ := Sd.mk (blk_below (g := gb243) (o := .cells #[.int .i64 x244000_2, .int .i64 x244001_2] 25 (0, 0)) (by exact blkF BK243.out) hb); have n2_ := Sd.mk (below_step (by repeat (first | (with_reducible first | exact HB.out | apply bal | apply pbd | apply bd1 | refine bst ?_ GE242.out | refine bst ?_ GE243.out) | exact HB.out)) hb); clear BK242; clear BK243; clear HB; have BK242 := n0_; have BK243 := n1_; have HB := n2_; clear n0_ n1_ n2_; (try clear hb); (try clear hb2); (try clear hk); (try clear hi); have hcz87_0 : w86.cell? ⟨gb243, 0, none⟩ = some (.int .i64 x244000_2) := (blk_cell BK243.out 0).trans rfl; have hcz87_1 : w86.cell? ⟨gb243, 1, none⟩ = some (.int .i64 x244001_2) := (blk_cell BK243.out 1).trans rfl; have hfz87_0 := blk_frozen BK243.out 0; have hfz87_1 := blk_frozen BK243.out 1))
             refine bodyPost_ret (results_ct rfl _ _ gb243 25 #[.int .i64 t262, .int .i64 t263] (0, 0) _ rfl (by (with_reducible repeat (first | refine blk_drewN ?_ _ | refine blk_drew ?_ | refine blk_alloc ?_ _)); refine blk_put (cs := #[.int .i64 t262, .int .i64 x244001_2]) ?_ 1 _ rfl; (with_reducible repeat (first | refine blk_drewN ?_ _ | refine blk_drew ?_ | refine blk_alloc ?_ _)); refine blk_put (cs := #[.int .i64 x244000_2, .int .i64 x244001_2]) ?_ 0 _ rfl; (with_reducible repeat (first | refine blk_drewN ?_ _ | refine blk_drew ?_ | refine blk_alloc ?_ _)); exact BK243.out) Tryz.underlying25 rfl (by kernel_rfl)) rfl ?_
             exact ⟨by first | rfl | (simp [errW_none, errW_some] <;> rfl) | (simp [*, errW_none, errW_some] <;> rfl), by repeat (first | (with_reducible first | exact HB.out | apply bal | apply pbd | apply bd1 | refine bst ?_ GE242.out | refine bst ?_ GE243.out) | exact HB.out)⟩
            ·rw [if_neg c82] at H
             have c82b0 : decide ((Int.tmod a1_1 1000) < 0) = false := decide_eq_false c82
             clear c82
             replace H := Option.bind_eq_some_iff.mp H
             obtain ⟨⟨t264, t265⟩, A880, H⟩ := H
             replace H : (some (t264, t265, true)) = some (r1, r2, r3) := H
             have A88 := Sd.mk A880
             clear A880
             simp only [Option.some.injEq, Prod.mk.injEq] at H
             obtain ⟨rfl, rfl, rfl⟩ := H
             have hnb89 := NB242_243.out
             have hnc89 := NB243_242.out
             have hcz90_0 : wc.cell? ⟨gb242, 0, none⟩ = some (.int .i64 a1_0) := (blk_cell BK242.out 0).trans rfl
             have hcz90_1 : wc.cell? ⟨gb242, 1, none⟩ = some (.int .i64 a1_1) := (blk_cell BK242.out 1).trans rfl
             have hfz90_0 := blk_frozen BK242.out 0
             have hfz90_1 := blk_frozen BK242.out 1
             go_wp2_with (first | ((with_reducible refine gate_callee (f := 20) rfl ?_); refine goesL_ (some 90) rfl rfl Tryz.func20 (by kernel_rfl) rfl #[.int .i64 (wrap64 (a1_1 - (Int.tmod a1_1 1000)))] rfl (by (try simp only [List.map_toArray, List.map_cons, List.map_nil]); first | done | rfl | (simp only [List.length_drop, List.length_take]; rfl)) ?_; (with_reducible refine (r8_Num.calls (wrap64 (a1_1 - (Int.tmod a1_1 1000))) t264 t265 _ A88.out).mono ?_); rintro e w91 ⟨rfl, hb⟩; refine ⟨_, rfl, ?_⟩; have n0_ := Sd.mk (blk_below (g := gb242) (o := .cells #[.int .i64 a1_0, .int .i64 a1_1] 25 (0, 0)) (by exact blkF BK242.out) hb); have n1_ := Sd.mk (blk_below (g := gb243) (o := .cells #[.int .i64 x244000_2, .int .i64 x244001_2] 25 (0, 0)) (by exact blkF BK243.out) hb); have n2_ := Sd.mk (below_step (by repeat (first | (with_reducible first | exact HB.out | apply bal | apply pbd | apply bd1 | refine bst ?_ GE242.out | refine bst ?_ GE243.out) | exact HB.out)) hb); clear BK242; clear BK243; clear HB; have BK242 := n0_; have BK243 := n1_; have HB := n2_; clear n0_ n1_ n2_; (try clear hb); (try clear hb2); (try clear hk); (try clear hi); have hcz92_0 : w91.cell? ⟨gb243, 0, none⟩ = some (.int .i64 x244000_2) := (blk_cell BK243.out 0).trans rfl; have hcz92_1 : w91.cell? ⟨gb243, 1, none⟩ = some (.int .i64 x244001_2) := (blk_cell BK243.out 1).trans rfl; have hfz92_0 := blk_frozen BK243.out 0; have hfz92_1 := blk_frozen BK243.out 1))
             refine bodyPost_ret (results_ct rfl _ _ gb243 25 #[.int .i64 t264, .int .i64 t265] (0, 0) _ rfl (by (with_reducible repeat (first | refine blk_drewN ?_ _ | refine blk_drew ?_ | refine blk_alloc ?_ _)); refine blk_put (cs := #[.int .i64 t264, .int .i64 x244001_2]) ?_ 1 _ rfl; (with_reducible repeat (first | refine blk_drewN ?_ _ | refine blk_drew ?_ | refine blk_alloc ?_ _)); refine blk_put (cs := #[.int .i64 x244000_2, .int .i64 x244001_2]) ?_ 0 _ rfl; (with_reducible repeat (first | refine blk_drewN ?_ _ | refine blk_drew ?_ | refine blk_alloc ?_ _)); exact BK243.out) Tryz.underlying25 rfl (by kernel_rfl)) rfl ?_
             exact ⟨by first | rfl | (simp [errW_none, errW_some] <;> rfl) | (simp [*, errW_none, errW_some] <;> rfl), by repeat (first | (with_reducible first | exact HB.out | apply bal | apply pbd | apply bd1 | refine bst ?_ GE242.out | refine bst ?_ GE243.out) | exact HB.out)⟩
           ·replace c81 := Bool.eq_false_iff.mpr c81
            subst c81
            have H1 : (some (a1_0, a1_1, true)) = some (r1, r2, r3) := by rw [if_neg (show ¬ (false = true) by decide)] at H; exact H
            clear H
            have H := H1
            clear H1
            simp only [Option.some.injEq, Prod.mk.injEq] at H
            obtain ⟨rfl, rfl, rfl⟩ := H
            have hnb93 := NB242_243.out
            have hnc93 := NB243_242.out
            have hcz94_0 : wc.cell? ⟨gb242, 0, none⟩ = some (.int .i64 a1_0) := (blk_cell BK242.out 0).trans rfl
            have hcz94_1 : wc.cell? ⟨gb242, 1, none⟩ = some (.int .i64 a1_1) := (blk_cell BK242.out 1).trans rfl
            have hfz94_0 := blk_frozen BK242.out 0
            have hfz94_1 := blk_frozen BK242.out 1
            have hcz95_0 : wc.cell? ⟨gb243, 0, none⟩ = some (.int .i64 x244000_2) := (blk_cell BK243.out 0).trans rfl
            have hcz95_1 : wc.cell? ⟨gb243, 1, none⟩ = some (.int .i64 x244001_2) := (blk_cell BK243.out 1).trans rfl
            have hfz95_0 := blk_frozen BK243.out 0
            have hfz95_1 := blk_frozen BK243.out 1
            go_wp2
            refine bodyPost_ret (results_ct rfl _ _ gb243 25 #[.int .i64 a1_0, .int .i64 a1_1] (0, 0) _ rfl (by (with_reducible repeat (first | refine blk_drewN ?_ _ | refine blk_drew ?_ | refine blk_alloc ?_ _)); refine blk_put (cs := #[.int .i64 a1_0, .int .i64 x244001_2]) ?_ 1 _ rfl; (with_reducible repeat (first | refine blk_drewN ?_ _ | refine blk_drew ?_ | refine blk_alloc ?_ _)); refine blk_put (cs := #[.int .i64 x244000_2, .int .i64 x244001_2]) ?_ 0 _ rfl; (with_reducible repeat (first | refine blk_drewN ?_ _ | refine blk_drew ?_ | refine blk_alloc ?_ _)); exact BK243.out) Tryz.underlying25 rfl (by kernel_rfl)) rfl ?_
            exact ⟨by first | rfl | (simp [errW_none, errW_some] <;> rfl) | (simp [*, errW_none, errW_some] <;> rfl), by repeat (first | (with_reducible first | exact HB.out | apply bal | apply pbd | apply bd1 | refine bst ?_ GE242.out | refine bst ?_ GE243.out) | exact HB.out)⟩
def r8_Null.f  : Option (Int × Int) := some (2, 0)
set_option maxHeartbeats 8000000 in
set_option maxRecDepth 100000 in
theorem r8_Null.calls  (r1 : Int) (r2 : Int) (w : World) (h : r8_Null.f  = some (r1, r2)) :
  Calls Tryz.prog 24 #[] w fun e w' => e = .returned (.agg #[.int .i64 r1, .int .i64 r2]) ∧ Below w.heap.size w w' := by
 have hu25 := Tryz.underlying25
 have HB := Sd.mk (Below.refl w.heap.size w)
 have H : (some (2, 0)) = some (r1, r2) := h
 clear h
 simp only [Option.some.injEq, Prod.mk.injEq] at H
 obtain ⟨rfl, rfl⟩ := H
 go_enter Tryz.func24, Tryz.ntmps24
 go_wp2_with (first | ((with_reducible refine gate_dst (N := 0) rfl ?_); refine box_event ?hg (N := 0) ?hd (cs := #[.int .i64 0, .int .i64 0]) (t := 25) ?hr ?_; (case hd => rfl); (case hg => rfl); (case hr => first | (go_simp; done) | (go_simp; rfl)); intro gb266 hg w1 hbox hb; have n0_ := Sd.mk (below_step (by exact blwF HB.out) hb); have n1_ := Sd.mk (hbox); have n2_ := Sd.mk ((by rw [hg]; exact (below_size (by exact blwF HB.out)) : w.heap.size ≤ gb266)); have n3_ := Sd.mk ((by rw [hg]; exact (below_size (by exact blwF HB.out)) : w.heap.size ≤ gb266)); clear HB; have HB := n0_; have BK266 := n1_; have GW266 := n2_; have GE266 := n3_; clear n0_ n1_ n2_ n3_; clear hb hbox hg; have hcz2_0 : w1.cell? ⟨gb266, 0, none⟩ = some (.int .i64 0) := (blk_cell BK266.out 0).trans rfl; have hcz2_1 : w1.cell? ⟨gb266, 1, none⟩ = some (.int .i64 0) := (blk_cell BK266.out 1).trans rfl; have hfz2_0 := blk_frozen BK266.out 0; have hfz2_1 := blk_frozen BK266.out 1))
 refine bodyPost_ret (results_cell_row rfl _ _ gb266 25 #[.int .i64 2, .int .i64 0] (0, 0) _ rfl (by (with_reducible repeat (first | refine blk_drewN ?_ _ | refine blk_drew ?_ | refine blk_alloc ?_ _)); refine blk_put (cs := #[.int .i64 2, .int .i64 0]) ?_ 1 _ rfl; (with_reducible repeat (first | refine blk_drewN ?_ _ | refine blk_drew ?_ | refine blk_alloc ?_ _)); refine blk_put (cs := #[.int .i64 0, .int .i64 0]) ?_ 0 _ rfl; (with_reducible repeat (first | refine blk_drewN ?_ _ | refine blk_drew ?_ | refine blk_alloc ?_ _)); exact BK266.out) Tryz.underlying25 rfl (by kernel_rfl)) rfl ?_
 exact ⟨by first | rfl | (simp [errW_none, errW_some] <;> rfl) | (simp [*, errW_none, errW_some] <;> rfl), by repeat (first | (with_reducible first | exact HB.out | apply bal | apply pbd | apply bd1 | refine bst ?_ GE266.out) | exact HB.out)⟩
def r8_NaN.f  : Option (Int × Int) := some (3, 0)
set_option maxHeartbeats 8000000 in
set_option maxRecDepth 100000 in
theorem r8_NaN.calls  (r1 : Int) (r2 : Int) (w : World) (h : r8_NaN.f  = some (r1, r2)) :
  Calls Tryz.prog 26 #[] w fun e w' => e = .returned (.agg #[.int .i64 r1, .int .i64 r2]) ∧ Below w.heap.size w w' := by
 have hu25 := Tryz.underlying25
 have HB := Sd.mk (Below.refl w.heap.size w)
 have H : (some (3, 0)) = some (r1, r2) := h
 clear h
 simp only [Option.some.injEq, Prod.mk.injEq] at H
 obtain ⟨rfl, rfl⟩ := H
 go_enter Tryz.func26, Tryz.ntmps26
 go_wp2_with (first | ((with_reducible refine gate_dst (N := 0) rfl ?_); refine box_event ?hg (N := 0) ?hd (cs := #[.int .i64 0, .int .i64 0]) (t := 25) ?hr ?_; (case hd => rfl); (case hg => rfl); (case hr => first | (go_simp; done) | (go_simp; rfl)); intro gb267 hg w1 hbox hb; have n0_ := Sd.mk (below_step (by exact blwF HB.out) hb); have n1_ := Sd.mk (hbox); have n2_ := Sd.mk ((by rw [hg]; exact (below_size (by exact blwF HB.out)) : w.heap.size ≤ gb267)); have n3_ := Sd.mk ((by rw [hg]; exact (below_size (by exact blwF HB.out)) : w.heap.size ≤ gb267)); clear HB; have HB := n0_; have BK267 := n1_; have GW267 := n2_; have GE267 := n3_; clear n0_ n1_ n2_ n3_; clear hb hbox hg; have hcz2_0 : w1.cell? ⟨gb267, 0, none⟩ = some (.int .i64 0) := (blk_cell BK267.out 0).trans rfl; have hcz2_1 : w1.cell? ⟨gb267, 1, none⟩ = some (.int .i64 0) := (blk_cell BK267.out 1).trans rfl; have hfz2_0 := blk_frozen BK267.out 0; have hfz2_1 := blk_frozen BK267.out 1))
 refine bodyPost_ret (results_cell_row rfl _ _ gb267 25 #[.int .i64 3, .int .i64 0] (0, 0) _ rfl (by (with_reducible repeat (first | refine blk_drewN ?_ _ | refine blk_drew ?_ | refine blk_alloc ?_ _)); refine blk_put (cs := #[.int .i64 3, .int .i64 0]) ?_ 1 _ rfl; (with_reducible repeat (first | refine blk_drewN ?_ _ | refine blk_drew ?_ | refine blk_alloc ?_ _)); refine blk_put (cs := #[.int .i64 0, .int .i64 0]) ?_ 0 _ rfl; (with_reducible repeat (first | refine blk_drewN ?_ _ | refine blk_drew ?_ | refine blk_alloc ?_ _)); exact BK267.out) Tryz.underlying25 rfl (by kernel_rfl)) rfl ?_
 exact ⟨by first | rfl | (simp [errW_none, errW_some] <;> rfl) | (simp [*, errW_none, errW_some] <;> rfl), by repeat (first | (with_reducible first | exact HB.out | apply bal | apply pbd | apply bd1 | refine bst ?_ GE267.out) | exact HB.out)⟩
end Go.Proofs.YtcmiehddjgfjaaaGreatDoor.A
namespace Go.Proofs.YtcmiehddjgfjaaaGreatDoor.A
open Go.RowKit Go.Proofs.YtcmiehddjgfjaaaGreatDoorW.PrintWords Go.Proofs.YtcmiehddjgfjaaaGreatDoorW.PrintLast Go.Proofs.YtcmiehddjgfjaaaGreatDoorW.PrintMore
attribute [local go_sem] max2_int min2_int max_two min_two max_three min_three max_four min_four   -- for this text's walks alone
set_option linter.unusedVariables false
set_option linter.unusedSimpArgs false
def l8_num.f (a0 : Int) : Option (Int) := some a0
set_option maxHeartbeats 8000000 in
set_option maxRecDepth 100000 in
theorem l8_num.calls (a0 : Int) (r : Int) (w : World) (h : l8_num.f a0 = some r) :
  Calls Tryz.prog 16 #[.int .i64 a0] w fun e w' => e = .returned (.int .i64 r) ∧ Drawn0 w w' := by
 have H : (some a0) = some r := h
 clear h
 obtain rfl := Option.some.inj H
 go_enter Tryz.func16, Tryz.ntmps16
 go_wp2
 go_ret
 exact ⟨by first | rfl | (simp; done) | (simp [*]; done), by repeat (first | exact Drawn0.refl _ | apply Drawn0.step)⟩
def v_Null.f  : Option (Int × Int) := some (2, 0)
set_option maxHeartbeats 8000000 in
set_option maxRecDepth 100000 in
theorem v_Null.calls  (r1 : Int) (r2 : Int) (w : World) (h : v_Null.f  = some (r1, r2)) :
  Calls Tryz.prog 23 #[] w fun e w' => e = .returned (.agg #[.int .i64 r1, .int .i64 r2]) ∧ Below w.heap.size w w' := by
 have hu25 := Tryz.underlying25
 have HB := Sd.mk (Below.refl w.heap.size w)
 have H : (some (2, 0)) = some (r1, r2) := h
 clear h
 simp only [Option.some.injEq, Prod.mk.injEq] at H
 obtain ⟨rfl, rfl⟩ := H
 go_enter Tryz.func23, Tryz.ntmps23
 go_wp2_with (first | ((with_reducible refine gate_dst (N := 0) rfl ?_); refine box_event ?hg (N := 0) ?hd (cs := #[.int .i64 0, .int .i64 0]) (t := 25) ?hr ?_; (case hd => rfl); (case hg => rfl); (case hr => first | (go_simp; done) | (go_simp; rfl)); intro gb430 hg w1 hbox hb; have n0_ := Sd.mk (below_step (by exact blwF HB.out) hb); have n1_ := Sd.mk (hbox); have n2_ := Sd.mk ((by rw [hg]; exact (below_size (by exact blwF HB.out)) : w.heap.size ≤ gb430)); have n3_ := Sd.mk ((by rw [hg]; exact (below_size (by exact blwF HB.out)) : w.heap.size ≤ gb430)); clear HB; have HB := n0_; have BK430 := n1_; have GW430 := n2_; have GE430 := n3_; clear n0_ n1_ n2_ n3_; clear hb hbox hg; have hcz2_0 : w1.cell? ⟨gb430, 0, none⟩ = some (.int .i64 0) := (blk_cell BK430.out 0).trans rfl; have hcz2_1 : w1.cell? ⟨gb430, 1, none⟩ = some (.int .i64 0) := (blk_cell BK430.out 1).trans rfl; have hfz2_0 := blk_frozen BK430.out 0; have hfz2_1 := blk_frozen BK430.out 1))
 refine bodyPost_ret (results_cell_row rfl _ _ gb430 25 #[.int .i64 2, .int .i64 0] (0, 0) _ rfl (by (with_reducible repeat (first | refine blk_drewN ?_ _ | refine blk_drew ?_ | refine blk_alloc ?_ _)); refine blk_put (cs := #[.int .i64 2, .int .i64 0]) ?_ 1 _ rfl; (with_reducible repeat (first | refine blk_drewN ?_ _ | refine blk_drew ?_ | refine blk_alloc ?_ _)); refine blk_put (cs := #[.int .i64 0, .int .i64 0]) ?_ 0 _ rfl; (with_reducible repeat (first | refine blk_drewN ?_ _ | refine blk_drew ?_ | refine blk_alloc ?_ _)); exact BK430.out) Tryz.underlying25 rfl (by kernel_rfl)) rfl ?_
 exact ⟨by first | rfl | (simp [errW_none, errW_some] <;> rfl) | (simp [*, errW_none, errW_some] <;> rfl), by repeat (first | (with_reducible first | exact HB.out | apply bal | apply pbd | apply bd1 | refine bst ?_ GE430.out) | exact HB.out)⟩
end Go.Proofs.YtcmiehddjgfjaaaGreatDoor.A
namespace Go.Proofs.YtcmiehddjgfjaaaGreatDoor.A
open Go.RowKit Go.Proofs.YtcmiehddjgfjaaaGreatDoorW.PrintWords Go.Proofs.YtcmiehddjgfjaaaGreatDoorW.PrintLast Go.Proofs.YtcmiehddjgfjaaaGreatDoorW.PrintMore Go.Proofs.YtcmiehddjgfjaaaGreatDoor.H Go.Sort
set_option linter.unusedVariables false
set_option linter.unusedSimpArgs false
attribute [local go_sem high] eqA25
theorem vPrint_live : vPrint (1, -12050) = [45, 49, 50, 46, 48, 53] := by
  have hv : isV (1, -12050) := .inl ⟨rfl, by decide, by decide⟩
  unfold vPrint
  rw [if_pos hv]
  unfold pText
  simp only
  rw [if_neg (by decide), if_neg (by decide), if_neg (by decide), if_neg (by decide), if_pos (by decide)]
  rw [show (-(-12050) : Int) = ((12050 : Nat) : Int) by decide, pBody_nat]
  unfold nBody
  rw [if_pos (by decide), show 12050 / 1000 = 12 by decide, dec_big (by decide), dec_small (by decide)]
  rfl
theorem vParse_live : vParse [45, 49, 50, 46, 48, 53] = ((1, -12050), 0) := by
  have hv : isV (1, -12050) := .inl ⟨rfl, by decide, by decide⟩
  have h := parse_print (1, -12050) hv
  rw [vPrint_live] at h
  exact h
theorem parse_lit (w : World) (G : Glob w) : Calls Tryz.prog 31 #[.string ⟨#[45, 49, 50, 46, 48, 53]⟩] w fun e w' => e = .returned (.tuple #[.agg #[.int .i64 1, .int .i64 (-12050)], .int .i64 0]) ∧ Below w.heap.size w w' := by
  have h := parse_calls ⟨#[45, 49, 50, 46, 48, 53]⟩ (by decide) w G
  rw [show (⟨#[45, 49, 50, 46, 48, 53]⟩ : ByteArray).toList = [45, 49, 50, 46, 48, 53] by rw [Lib.toList_data], vParse_live] at h
  exact h
theorem print_lit (w : World) (G : Glob w) : Calls Tryz.prog 33 #[.agg #[.int .i64 1, .int .i64 (-12050)]] w fun e w' => e = .returned (.string ⟨#[45, 49, 50, 46, 48, 53]⟩) ∧ Below w.heap.size w w' := by
  have h := print_calls 1 (-12050) w G
  rw [vPrint_live] at h
  exact h
theorem numl_calls (n : Int) (w : World) : Calls Tryz.prog 16 #[.int .i64 n] w fun e w' => e = .returned (.int .i64 n) ∧ w = w' := by
  go_enter Tryz.func16, Tryz.ntmps16
  go_wp2
  go_ret
  exact ⟨rfl, rfl⟩
theorem check_bad (w : World) : Calls Tryz.prog 17 #[.slice (some ⟨w.heap.size, 0, none⟩) 1 1] (w.alloc (.cells #[.int .i64 0, .int .i64 0] 25)) fun e w' => e = .returned (.int .i64 80) ∧ Below w.heap.size w w' := by
  have hc : v_Check.f [⟨0, 0⟩] = some 80 := by
    unfold v_Check.f
    have : badV (⟨0, 0⟩ : S25) = true := by unfold badV sv isV; simp
    simp [this]
  exact (v_Check.calls _ 1 [⟨0, 0⟩] 80 _ (fresh_C1 w 0 0) (Nat.le_refl _) hc).mono fun e w' ⟨he, hb⟩ => ⟨he, (below_one w _).trans (hb.mono (below_one w _).size)⟩
theorem r333_calls (w : World) : Calls Tryz.prog 20 #[.int .i64 333] w fun e w' => e = .returned (.agg #[.int .i64 1, .int .i64 333]) ∧ Below w.heap.size w w' := r8_Num.calls 333 1 333 w (by first | rfl | (unfold r8_Num.f; simp))
theorem r1000_calls (w : World) : Calls Tryz.prog 20 #[.int .i64 1000] w fun e w' => e = .returned (.agg #[.int .i64 1, .int .i64 1000]) ∧ Below w.heap.size w w' := r8_Num.calls 1000 1 1000 w (by first | rfl | (unfold r8_Num.f; simp))
theorem rneg_calls (w : World) : Calls Tryz.prog 20 #[.int .i64 (-12050)] w fun e w' => e = .returned (.agg #[.int .i64 1, .int .i64 (-12050)]) ∧ Below w.heap.size w w' := r8_Num.calls (-12050) 1 (-12050) w (by first | rfl | (unfold r8_Num.f; simp))
theorem rminus_calls (w : World) : Calls Tryz.prog 30 #[] w fun e w' => e = .returned (.agg #[.int .i64 5, .int .i64 0]) ∧ Below w.heap.size w w' := r8_Minus.calls  5 0 w (by first | rfl | (unfold r8_Num.f; simp))
theorem rnull_calls (w : World) : Calls Tryz.prog 24 #[] w fun e w' => e = .returned (.agg #[.int .i64 2, .int .i64 0]) ∧ Below w.heap.size w w' := r8_Null.calls  2 0 w (by first | rfl | (unfold r8_Num.f; simp))
/-- What stands while the answers are held against each other. -/
def LiveS (w : World) (N1 N2 N3 N4 N5 : Nat) (w' : World) : Prop := Below w.heap.size w w' ∧ w'.cell? ⟨N1, 0, none⟩ = some (.int .i64 1) ∧ w'.cell? ⟨N1, 1, none⟩ = some (.int .i64 333) ∧ w'.cell? ⟨N2, 0, none⟩ = some (.int .i64 5) ∧ w'.cell? ⟨N2, 1, none⟩ = some (.int .i64 0) ∧ w'.cell? ⟨N3, 0, none⟩ = some (.int .i64 2) ∧ w'.cell? ⟨N3, 1, none⟩ = some (.int .i64 0) ∧ w'.cell? ⟨N4, 0, none⟩ = some (.int .i64 1) ∧ w'.cell? ⟨N4, 1, none⟩ = some (.int .i64 1000) ∧ w'.cell? ⟨N5, 0, none⟩ = some (.int .i64 1) ∧ w'.cell? ⟨N5, 1, none⟩ = some (.int .i64 (-12050))
theorem LiveS.below {w w1 w2 : World} {N1 N2 N3 N4 N5 : Nat} (h : LiveS w N1 N2 N3 N4 N5 w1) (hb : Below w1.heap.size w1 w2) : LiveS w N1 N2 N3 N4 N5 w2 := by
  obtain ⟨h0, h1, h2, h3, h4, h5, h6, h7, h8, h9, h10⟩ := h
  exact ⟨h0.trans (hb.mono h0.size), pw_cell_below hb h1, pw_cell_below hb h2, pw_cell_below hb h3, pw_cell_below hb h4, pw_cell_below hb h5, pw_cell_below hb h6, pw_cell_below hb h7, pw_cell_below hb h8, pw_cell_below hb h9, pw_cell_below hb h10⟩
theorem LiveS.drew {w w1 : World} {N1 N2 N3 N4 N5 : Nat} (h : LiveS w N1 N2 N3 N4 N5 w1) : LiveS w N1 N2 N3 N4 N5 w1.drew := h.below (Below.refl _ _).drew
theorem LiveS.alloc {w w1 : World} {N1 N2 N3 N4 N5 : Nat} (h : LiveS w N1 N2 N3 N4 N5 w1) (o : Obj) : LiveS w N1 N2 N3 N4 N5 (w1.alloc o) := h.below (below_one w1 o)
def l8_live.f : Option Bool := some true
set_option maxHeartbeats 4000000 in
set_option maxRecDepth 100000 in
theorem l8_live.calls (r : Bool) (w : World) (h : l8_live.f = some r) (G : Glob w) : Calls Tryz.prog 10 #[] w fun e w' => e = .returned (.bool r) ∧ Below w.heap.size w w' := by
  injection h with h
  subst h
  have vN : ∀ n : Int, -1000000000000000 ≤ n → n ≤ 1000000000000000 → isV (1, n) := fun n h1 h2 => .inl ⟨rfl, h1, h2⟩
  have v2 : isV (2, 0) := .inr ⟨.inl rfl, rfl⟩
  have v3 : isV (3, 0) := .inr ⟨.inr (.inl rfl), rfl⟩
  have d1 := Sd.mk (fun w1 => do2_fresh op2_div (vN 1000 (by decide) (by decide)) (vN 3000 (by decide) (by decide)) (r := (1, 333)) rfl w1)
  have d2 := Sd.mk (fun w1 => do2_fresh op2_div (vN (-1) (by decide) (by decide)) (vN 0 (by decide) (by decide)) (r := (5, 0)) rfl w1)
  have d3 := Sd.mk (fun w1 => do2_fresh op2_gt v2 (vN 1 (by decide) (by decide)) (r := (2, 0)) rfl w1)
  have d4 := Sd.mk (fun w1 => do2_fresh op2_ne v3 v3 (r := (1, 1000)) rfl w1)
  have HG := Sd.mk G
  have HK := Sd.mk (Bx.start w)
  clear G vN v2 v3
  go_enter Tryz.func10, Tryz.ntmps10
  go_wp2_with (first
    | (go_at_call 19; refine (num_in _ (by decide) (by decide) _).mono ?_; rintro e w1 ⟨rfl, hb1⟩; (first | have HK := Sd.mk ((HK.out.push _ _).below hb1) | have HK := Sd.mk (HK.out.below hb1)); clear hb1)
    | (go_at_call 23; refine (null_calls _).mono ?_; rintro e w1 ⟨rfl, hb1⟩; (first | have HK := Sd.mk ((HK.out.push _ _).below hb1) | have HK := Sd.mk (HK.out.below hb1)); clear hb1)
    | (go_at_call 25; refine (nan_calls _).mono ?_; rintro e w1 ⟨rfl, hb1⟩; (first | have HK := Sd.mk ((HK.out.push _ _).below hb1) | have HK := Sd.mk (HK.out.below hb1)); clear hb1)
    | (go_at_call 11; (with_reducible refine (d1.out _).mono ?_); rintro e u1 ⟨rfl, hb1⟩; have HK := Sd.mk (HK.out.below hb1); clear hb1)
    | (go_at_call 11; (with_reducible refine (d2.out _).mono ?_); rintro e u2 ⟨rfl, hb1⟩; have HK := Sd.mk (HK.out.below hb1); clear hb1)
    | (go_at_call 11; (with_reducible refine (d3.out _).mono ?_); rintro e u3 ⟨rfl, hb1⟩; have HK := Sd.mk (HK.out.below hb1); clear hb1)
    | (go_at_call 11; (with_reducible refine (d4.out _).mono ?_); rintro e u4 ⟨rfl, hb1⟩; have HK := Sd.mk (HK.out.below hb1); clear hb1)
    | (go_at_call 31; refine (parse_lit _ (HG.out.below (HK.out.push _ _).b)).mono ?_; rintro e u5 ⟨rfl, hb1⟩; have HK := Sd.mk ((HK.out.push _ _).below hb1); clear hb1))
  have HK := Sd.mk (HK.out.push 1 (-12050))
  generalize u5.alloc (.cells #[.int .i64 1, .int .i64 (-12050)] 25) = W at HK ⊢
  generalize u5.heap.size = N5 at HK ⊢
  generalize u4.heap.size = N4 at HK ⊢
  generalize u3.heap.size = N3 at HK ⊢
  generalize u2.heap.size = N2 at HK ⊢
  generalize u1.heap.size = N1 at HK ⊢
  have S0 : Below w.heap.size w W ∧ W.cell? ⟨N1, 0, none⟩ = some (.int .i64 1) ∧ W.cell? ⟨N1, 1, none⟩ = some (.int .i64 333) ∧ W.cell? ⟨N2, 0, none⟩ = some (.int .i64 5) ∧ W.cell? ⟨N2, 1, none⟩ = some (.int .i64 0) ∧ W.cell? ⟨N3, 0, none⟩ = some (.int .i64 2) ∧ W.cell? ⟨N3, 1, none⟩ = some (.int .i64 0) ∧ W.cell? ⟨N4, 0, none⟩ = some (.int .i64 1) ∧ W.cell? ⟨N4, 1, none⟩ = some (.int .i64 1000) ∧ W.cell? ⟨N5, 0, none⟩ = some (.int .i64 1) ∧ W.cell? ⟨N5, 1, none⟩ = some (.int .i64 (-12050)) :=
    ⟨HK.out.b, HK.out.c0 (n := N1) (a := 1) (b := 333) (by simp), HK.out.c1 (n := N1) (a := 1) (b := 333) (by simp), HK.out.c0 (n := N2) (a := 5) (b := 0) (by simp), HK.out.c1 (n := N2) (a := 5) (b := 0) (by simp), HK.out.c0 (n := N3) (a := 2) (b := 0) (by simp), HK.out.c1 (n := N3) (a := 2) (b := 0) (by simp), HK.out.c0 (n := N4) (a := 1) (b := 1000) (by simp), HK.out.c1 (n := N4) (a := 1) (b := 1000) (by simp), HK.out.c0 (n := N5) (a := 1) (b := -12050) (by simp), HK.out.c1 (n := N5) (a := 1) (b := -12050) (by simp)⟩
  clear HK d1 d2 d3 d4
  have S1 : LiveS w N1 N2 N3 N4 N5 W := S0
  clear S0
  go_region_held3 (fun w' => Below w.heap.size w w' ∧ w'.cell? ⟨N1, 0, none⟩ = some (.int .i64 1) ∧ w'.cell? ⟨N1, 1, none⟩ = some (.int .i64 333) ∧ w'.cell? ⟨N2, 0, none⟩ = some (.int .i64 5) ∧ w'.cell? ⟨N2, 1, none⟩ = some (.int .i64 0) ∧ w'.cell? ⟨N3, 0, none⟩ = some (.int .i64 2) ∧ w'.cell? ⟨N3, 1, none⟩ = some (.int .i64 0) ∧ w'.cell? ⟨N4, 0, none⟩ = some (.int .i64 1) ∧ w'.cell? ⟨N4, 1, none⟩ = some (.int .i64 1000) ∧ w'.cell? ⟨N5, 0, none⟩ = some (.int .i64 1) ∧ w'.cell? ⟨N5, 1, none⟩ = some (.int .i64 (-12050))) (first | exact hS | exact LiveS.drew (by assumption) | exact LiveS.alloc (by assumption) _ | go_keep)
    (first
      | (go_at_call 16; (with_reducible refine (numl_calls _ _).mono ?_); rintro e w2 ⟨rfl, rfl⟩)
      | (go_at_call 20; (with_reducible refine (r333_calls _).mono ?_); rintro e w2 ⟨rfl, hb1⟩; have hS : LiveS w N1 N2 N3 N4 N5 _ := LiveS.below (by assumption) hb1; clear hb1)
      | (go_at_call 20; (with_reducible refine (r1000_calls _).mono ?_); rintro e w2 ⟨rfl, hb1⟩; have hS : LiveS w N1 N2 N3 N4 N5 _ := LiveS.below (by assumption) hb1; clear hb1)
      | (go_at_call 20; (with_reducible refine (rneg_calls _).mono ?_); rintro e w2 ⟨rfl, hb1⟩; have hS : LiveS w N1 N2 N3 N4 N5 _ := LiveS.below (by assumption) hb1; clear hb1)
      | (go_at_call 30; (with_reducible refine (rminus_calls _).mono ?_); rintro e w2 ⟨rfl, hb1⟩; have hS : LiveS w N1 N2 N3 N4 N5 _ := LiveS.below (by assumption) hb1; clear hb1)
      | (go_at_call 24; (with_reducible refine (rnull_calls _).mono ?_); rintro e w2 ⟨rfl, hb1⟩; have hS : LiveS w N1 N2 N3 N4 N5 _ := LiveS.below (by assumption) hb1; clear hb1)
      | (go_at_call 33; refine (print_lit _ (HG.out.below (show LiveS w N1 N2 N3 N4 N5 _ by assumption).1)).mono ?_; rintro e w2 ⟨rfl, hb1⟩; have hS : LiveS w N1 N2 N3 N4 N5 _ := LiveS.below (by assumption) hb1; clear hb1)
      | (go_at_call 17; (with_reducible refine (check_bad _).mono ?_); rintro e w2 ⟨rfl, hb1⟩; have hS : LiveS w N1 N2 N3 N4 N5 _ := LiveS.below (by assumption) hb1; clear hb1))
  go_wp2
  go_ret
  exact ⟨by simp, (show LiveS w N1 N2 N3 N4 N5 _ by assumption).1⟩
end Go.Proofs.YtcmiehddjgfjaaaGreatDoor.A
namespace Go.Proofs.YtcmiehddjgfjaaaGreatDoor.A
theorem live_is : l8_live.f = some true := rfl
end Go.Proofs.YtcmiehddjgfjaaaGreatDoor.A
namespace Go.Proofs.YtcmiehddjgfjaaaGreatDoor.A
open Go.RowKit Go.Proofs.YtcmiehddjgfjaaaGreatDoorW.PrintWords Go.Proofs.YtcmiehddjgfjaaaGreatDoorW.PrintLast Go.Proofs.YtcmiehddjgfjaaaGreatDoorW.PrintMore
set_option linter.unusedVariables false
set_option linter.unusedSimpArgs false
theorem ris_is (a b : Int) : r8_Is.f a b = some (decide (isV (a, b))) := by
  unfold r8_Is.f
  by_cases hv : isV (a, b)
  · rw [decide_eq_true hv]
    rcases hv with ⟨h, h1, h2⟩ | ⟨h, h1⟩
    · have h' : a = 1 := h
      have h1' : -1000000000000000 ≤ b := h1
      have h2' : b ≤ 1000000000000000 := h2
      rw [if_pos h', if_pos h1', decide_eq_true h2']
    · have h' : a = 2 ∨ a = 3 ∨ a = 4 ∨ a = 5 := h
      have h1' : b = 0 := h1
      rw [if_neg (by omega), if_pos (by omega), if_pos (by omega), h1']; rfl
  · rw [decide_eq_false hv]
    by_cases h1 : a = 1
    · rw [if_pos h1]
      by_cases h2 : b ≥ -1000000000000000
      · rw [if_pos h2]
        have h3 : ¬ b ≤ 1000000000000000 := fun h3 => hv (.inl ⟨h1, h2, h3⟩)
        rw [decide_eq_false h3]
      · rw [if_neg h2]
    · rw [if_neg h1]
      by_cases h2 : a ≥ 2
      · rw [if_pos h2]
        by_cases h3 : a ≤ 5
        · rw [if_pos h3]
          have h4 : ¬ b = 0 := fun h4 => hv (.inr ⟨by show a = 2 ∨ a = 3 ∨ a = 4 ∨ a = 5; omega, h4⟩)
          congr 1
          exact beq_false_of_ne h4
        · rw [if_neg h3]
      · rw [if_neg h2]
theorem badV_is (x : S25) : badV x = !decide (isV (x.f0, x.f1)) := rfl
theorem rd_at {xs : List S25} {i : Nat} (h : i < xs.length) : rd_T25 xs (i : Int) = xs[i] := by
  unfold rd_T25
  rw [Int.toNat_natCast, List.getD_eq_getElem?_getD, List.getElem?_eq_getElem h]; rfl
theorem check_loop (l : List S25) (hm : l.length ≤ 4611686018427387904) : ∀ (d i : Nat), i + d = l.length → Ev (fun k => r8_Check.l0 k l (i : Int)) (if (l.drop i).any badV then 80 else 0)
  | 0, i, h => by
    have e : l.drop i = [] := List.drop_of_length_le (by omega)
    rw [e]
    refine ⟨1, fun k hk => ?_⟩
    obtain ⟨k, rfl⟩ : ∃ n, k = n + 1 := ⟨k - 1, by omega⟩
    simp only [r8_Check.l0]
    rw [if_neg (by omega)]
    rfl
  | d + 1, i, h => by
    have hi : i < l.length := by omega
    have e4 : wrap64 ((i : Int) + 1) = ((i + 1 : Nat) : Int) := by rw [wrap_id (by omega) (by omega)]; omega
    have he : l.drop i = l[i] :: l.drop (i + 1) := List.drop_eq_getElem_cons hi
    have ih := check_loop l hm d (i + 1) (by omega)
    rw [he, List.any_cons, badV_is]
    by_cases hv : isV (l[i].f0, l[i].f1)
    · rw [decide_eq_true hv]
      refine Ev.step (fun k => ?_) ih
      simp only [r8_Check.l0]
      rw [if_pos (by omega), if_pos (by omega), rd_at hi, ris_is, decide_eq_true hv]
      simp only [Option.bind_some, if_true]
      rw [e4]
    · rw [decide_eq_false hv]
      refine ⟨1, fun k hk => ?_⟩
      obtain ⟨k, rfl⟩ : ∃ n, k = n + 1 := ⟨k - 1, by omega⟩
      simp only [r8_Check.l0]
      rw [if_pos (by omega), if_pos (by omega), rd_at hi, ris_is, decide_eq_false hv]
      simp
theorem check_ev (l : List S25) (hm : l.length ≤ 4611686018427387904) : Ev (fun k => r8_Check.f k l) (if l.any badV then 80 else 0) := by
  have h := check_loop l hm l.length 0 (by omega)
  rw [List.drop_zero] at h
  exact h
theorem live_ev : Ev (fun _ => l8_live.f.bind fun t => some t) true := ⟨0, fun _ _ => by rw [live_is]; rfl⟩
end Go.Proofs.YtcmiehddjgfjaaaGreatDoor.A
namespace Go.Proofs.YtcmiehddjgfjaaaGreatDoor.A
open Go.RowKit Go.Proofs.YtcmiehddjgfjaaaGreatDoorW.PrintWords Go.Proofs.YtcmiehddjgfjaaaGreatDoorW.PrintLast Go.Proofs.YtcmiehddjgfjaaaGreatDoorW.PrintMore
set_option linter.unusedVariables false
set_option linter.unusedSimpArgs false
theorem rnum_is (n : Int) : r8_Num.f n = some (vNum n) := by
  unfold r8_Num.f vNum r8_Plus.f r8_Minus.f
  split
  · rfl
  · split <;> rfl
end Go.Proofs.YtcmiehddjgfjaaaGreatDoor.A
namespace Go.Proofs.YtcmiehddjgfjaaaGreatDoor.A
open Go.RowKit Go.Proofs.YtcmiehddjgfjaaaGreatDoorW.PrintWords Go.Proofs.YtcmiehddjgfjaaaGreatDoorW.PrintLast Go.Proofs.YtcmiehddjgfjaaaGreatDoorW.PrintMore
attribute [local go_sem] max2_int min2_int max_two min_two max_three min_three max_four min_four   -- for this text's walks alone
set_option linter.unusedVariables false
set_option linter.unusedSimpArgs false
attribute [local go_sem high] eqA25
def r8_Less.j0 : Nat → Bool → Int → Int → Int → Int → Option (Bool)
 | 0, _, _, _, _, _ => none
 | k + 1, x5, x269000, x269001, x270000, x270001 => if x5 = true then (some (decide (x269001 < x270001))) else (if x269000 = x270000 then (some false) else (if x269000 = 5 then (some true) else (some (x270000 == 4))))
def r8_Less.f (k : Nat) (a0_0 : Int) (a0_1 : Int) (a1_0 : Int) (a1_1 : Int) : Option (Bool) := (r8_num.f a0_0 a0_1).bind fun t270 => (if t270 = true then ((r8_num.f a1_0 a1_1).bind fun t271 => (r8_Less.j0 k t271 a0_0 a0_1 a1_0 a1_1)) else (r8_Less.j0 k false a0_0 a0_1 a1_0 a1_1))
theorem r8_Less.mono_l : ∀ k, (∀ y0 y1 y2 y3 y4, LeO (r8_Less.j0 k y0 y1 y2 y3 y4) (r8_Less.j0 (k + 1) y0 y1 y2 y3 y4))
 | 0 => fun _ _ _ _ _ r h => by simp [r8_Less.j0] at h
 | k + 1 => by
  have ih0 := r8_Less.mono_l k
  ·intro y0 y1 y2 y3 y4
   unfold r8_Less.j0
   repeat' first
   | (with_reducible exact ih0 _ _ _ _ _)
   | (with_reducible exact LeO.refl _)
   | (with_reducible exact LeO.none _)
   | (with_reducible refine LeO.ite ?_ ?_)
   | (with_reducible refine LeO.bind ?_ (fun _ => ?_))
   | exact ih0 _ _ _ _ _
   | exact LeO.none _
   | refine LeO.ite ?_ ?_
   | refine LeO.bind ?_ (fun _ => ?_)
theorem r8_Less.mono : ∀ a0 a1 a2 a3 k, LeO (r8_Less.f k a0 a1 a2 a3) (r8_Less.f (k + 1) a0 a1 a2 a3) := by
 intro a0 a1 a2 a3 k
 have ih0 := r8_Less.mono_l k
 unfold r8_Less.f
 repeat' first
   | (with_reducible exact ih0 _ _ _ _ _)
   | (with_reducible exact LeO.refl _)
   | (with_reducible exact LeO.none _)
   | (with_reducible refine LeO.ite ?_ ?_)
   | (with_reducible refine LeO.bind ?_ (fun _ => ?_))
   | exact ih0 _ _ _ _ _
   | exact LeO.none _
   | refine LeO.ite ?_ ?_
   | refine LeO.bind ?_ (fun _ => ?_)
set_option maxHeartbeats 8000000 in
set_option maxRecDepth 100000 in
theorem r8_Less.calls (k : Nat) (a0_0 : Int) (a0_1 : Int) (a1_0 : Int) (a1_1 : Int) (r : Bool) (w : World) (h : r8_Less.f k a0_0 a0_1 a1_0 a1_1 = some r) :
  Calls Tryz.prog 77 #[.agg #[.int .i64 a0_0, .int .i64 a0_1], .agg #[.int .i64 a1_0, .int .i64 a1_1]] w fun e w' => e = .returned (.bool r) ∧ Below w.heap.size w w' := by
 have hu25 := Tryz.underlying25
 have HB := Sd.mk (Below.refl w.heap.size w)
 have H : ((r8_num.f a0_0 a0_1).bind fun t270 => (if t270 = true then ((r8_num.f a1_0 a1_1).bind fun t271 => (r8_Less.j0 k t271 a0_0 a0_1 a1_0 a1_1)) else (r8_Less.j0 k false a0_0 a0_1 a1_0 a1_1))) = some r := h
 clear h
 have HC3 := Sd.mk H
 clear H
 go_enter Tryz.func77, Tryz.ntmps77
 go_upto_region 1 with (first | ((with_reducible refine gate_dst (N := 2) rfl ?_); refine box_event ?hg (N := 2) ?hd (cs := #[.int .i64 a0_0, .int .i64 a0_1]) (t := 25) ?hr ?_; (case hd => rfl); (case hg => rfl); (case hr => first | (go_simp; done) | (go_simp; rfl)); intro gb268 hg w4 hbox hb; have n0_ := Sd.mk (below_step (by exact blwF HB.out) hb); have n1_ := Sd.mk (hbox); have n2_ := Sd.mk ((by rw [hg]; exact (below_size (by exact blwF HB.out)) : w.heap.size ≤ gb268)); have n3_ := Sd.mk ((by rw [hg]; exact (below_size (by exact blwF HB.out)) : w.heap.size ≤ gb268)); clear HB; have HB := n0_; have BK268 := n1_; have GW268 := n2_; have GE268 := n3_; clear n0_ n1_ n2_ n3_; clear hb hbox hg) | ((with_reducible refine gate_dst (N := 3) rfl ?_); refine box_event ?hg (N := 3) ?hd (cs := #[.int .i64 a1_0, .int .i64 a1_1]) (t := 25) ?hr ?_; (case hd => rfl); (case hg => rfl); (case hr => first | (go_simp; done) | (go_simp; rfl)); intro gb269 hg w5 hbox hb; have n0_ := Sd.mk (blk_below (g := gb268) (o := .cells #[.int .i64 a0_0, .int .i64 a0_1] 25 (0, 0)) (by exact blkF BK268.out) hb); have n1_ := Sd.mk (below_step (by repeat (first | (with_reducible first | exact HB.out | apply bal | apply pbd | apply bd1 | refine bst ?_ GE268.out) | exact HB.out)) hb); have n2_ := Sd.mk (hbox); have n3_ := Sd.mk ((by rw [hg]; exact (below_size (by repeat (first | (with_reducible first | exact HB.out | apply bal | apply pbd | apply bd1 | refine bst ?_ GE268.out) | exact HB.out))) : w.heap.size ≤ gb269)); have n4_ := Sd.mk ((by rw [hg]; exact (below_size (by repeat (first | (with_reducible first | exact HB.out | apply bal | apply pbd | apply bd1 | refine bst ?_ GE268.out) | exact HB.out))) : w.heap.size ≤ gb269)); have n5_ := Sd.mk ((by rw [hg]; exact Nat.ne_of_lt (blk_lt (g := gb268) (o := .cells #[.int .i64 a0_0, .int .i64 a0_1] 25 (0, 0)) (by exact blkF BK268.out)) : gb268 ≠ gb269)); have n6_ := Sd.mk ((by rw [hg]; exact Nat.ne_of_gt (blk_lt (g := gb268) (o := .cells #[.int .i64 a0_0, .int .i64 a0_1] 25 (0, 0)) (by exact blkF BK268.out)) : gb269 ≠ gb268)); clear BK268; clear HB; have BK268 := n0_; have HB := n1_; have BK269 := n2_; have GW269 := n3_; have GE269 := n4_; have NB268_269 := n5_; have NB269_268 := n6_; clear n0_ n1_ n2_ n3_ n4_ n5_ n6_; clear hb hbox hg))
 (try simp only [Act.put, List.setIfInBounds_toArray, List.set_cons_zero, List.set_cons_succ])
 go_cut [5] (fun v5 wc => ∃ (kq : Nat) (x5_2 : Bool), v5 = .bool x5_2 ∧ Sd (r8_Less.j0 kq x5_2 a0_0 a0_1 a1_0 a1_1 = some r) ∧ Sd (kq ≤ k) ∧ Sd (wc.heap[gb268]? = some (.cells #[.int .i64 a0_0, .int .i64 a0_1] 25 (0, 0))) ∧ Sd (wc.heap[gb269]? = some (.cells #[.int .i64 a1_0, .int .i64 a1_1] 25 (0, 0))) ∧ Sd (Below w.heap.size w wc))
 case first =>
  have H := HC3.out
  clear HC3
  replace H := Option.bind_eq_some_iff.mp H
  obtain ⟨t270, A60, H⟩ := H
  replace H : (if t270 = true then ((r8_num.f a1_0 a1_1).bind fun t271 => (r8_Less.j0 k t271 a0_0 a0_1 a1_0 a1_1)) else (r8_Less.j0 k false a0_0 a0_1 a1_0 a1_1)) = some r := H
  have A6 := Sd.mk A60
  clear A60
  by_cases c7 : t270 = true
  ·subst c7
   have H1 : ((r8_num.f a1_0 a1_1).bind fun t271 => (r8_Less.j0 k t271 a0_0 a0_1 a1_0 a1_1)) = some r := by rw [if_pos rfl] at H; exact H
   clear H
   have H := H1
   clear H1
   replace H := Option.bind_eq_some_iff.mp H
   obtain ⟨t271, A80, H⟩ := H
   replace H : (r8_Less.j0 k t271 a0_0 a0_1 a1_0 a1_1) = some r := H
   have A8 := Sd.mk A80
   clear A80
   have H' := Sd.mk H
   clear H
   have hnb9 := NB268_269.out
   have hnc9 := NB269_268.out
   have hcz10_0 : w5.cell? ⟨gb268, 0, none⟩ = some (.int .i64 a0_0) := (blk_cell BK268.out 0).trans rfl
   have hcz10_1 : w5.cell? ⟨gb268, 1, none⟩ = some (.int .i64 a0_1) := (blk_cell BK268.out 1).trans rfl
   have hfz10_0 := blk_frozen BK268.out 0
   have hfz10_1 := blk_frozen BK268.out 1
   go_wp2_with (first | ((with_reducible refine gate_callee (f := 48) rfl ?_); refine goesL_ (some 7) rfl rfl Tryz.func48 (by kernel_rfl) rfl #[.agg #[.int .i64 a0_0, .int .i64 a0_1]] rfl (by (try simp only [List.map_toArray, List.map_cons, List.map_nil]); first | done | rfl | (simp only [List.length_drop, List.length_take]; rfl)) ?_; (with_reducible refine (r8_num.calls a0_0 a0_1 true _ A6.out).mono ?_); rintro e w11 ⟨rfl, hb⟩; refine ⟨_, rfl, ?_⟩; have n0_ := Sd.mk (blk_below (g := gb268) (o := .cells #[.int .i64 a0_0, .int .i64 a0_1] 25 (0, 0)) (by exact blkF BK268.out) hb); have n1_ := Sd.mk (blk_below (g := gb269) (o := .cells #[.int .i64 a1_0, .int .i64 a1_1] 25 (0, 0)) (by exact blkF BK269.out) hb); have n2_ := Sd.mk (below_step (by repeat (first | (with_reducible first | exact HB.out | apply bal | apply pbd | apply bd1 | refine bst ?_ GE268.out | refine bst ?_ GE269.out) | exact HB.out)) hb); clear BK268; clear BK269; clear HB; have BK268 := n0_; have BK269 := n1_; have HB := n2_; clear n0_ n1_ n2_; (try clear hb); (try clear hb2); (try clear hk); (try clear hi); have hcz12_0 : w11.cell? ⟨gb269, 0, none⟩ = some (.int .i64 a1_0) := (blk_cell BK269.out 0).trans rfl; have hcz12_1 : w11.cell? ⟨gb269, 1, none⟩ = some (.int .i64 a1_1) := (blk_cell BK269.out 1).trans rfl; have hfz12_0 := blk_frozen BK269.out 0; have hfz12_1 := blk_frozen BK269.out 1) | (go_at_call 48; (with_reducible refine (r8_num.calls a1_0 a1_1 t271 _ A8.out).mono ?_); rintro e w13 ⟨rfl, hb⟩; have n0_ := Sd.mk (blk_below (g := gb268) (o := .cells #[.int .i64 a0_0, .int .i64 a0_1] 25 (0, 0)) (by exact blkF BK268.out) hb); have n1_ := Sd.mk (blk_below (g := gb269) (o := .cells #[.int .i64 a1_0, .int .i64 a1_1] 25 (0, 0)) (by exact blkF BK269.out) hb); have n2_ := Sd.mk (below_step (by repeat (first | (with_reducible first | exact HB.out | apply bal | apply pbd | apply bd1 | refine bst ?_ GE268.out | refine bst ?_ GE269.out) | exact HB.out)) hb); clear BK268; clear BK269; clear HB; have BK268 := n0_; have BK269 := n1_; have HB := n2_; clear n0_ n1_ n2_; (try clear hb); (try clear hb2); (try clear hk); (try clear hi)))
   go_meet
   case rel => exact ⟨_, (t271), (by first | rfl | (simp; done) | (simp [*]; done)), H', ⟨by first | omega | exact Nat.le_refl _⟩, ⟨by (with_reducible repeat (first | refine blk_drewN ?_ _ | refine blk_drew ?_ | refine blk_alloc ?_ _)); exact BK268.out⟩, ⟨by (with_reducible repeat (first | refine blk_drewN ?_ _ | refine blk_drew ?_ | refine blk_alloc ?_ _)); exact BK269.out⟩, ⟨by repeat (first | (with_reducible first | exact HB.out | apply bal | apply pbd | apply bd1 | refine bst ?_ GE268.out | refine bst ?_ GE269.out) | exact HB.out)⟩⟩
  ·replace c7 := Bool.eq_false_iff.mpr c7
   subst c7
   have H1 : (r8_Less.j0 k false a0_0 a0_1 a1_0 a1_1) = some r := by rw [if_neg (show ¬ (false = true) by decide)] at H; exact H
   clear H
   have H := H1
   clear H1
   have H' := Sd.mk H
   clear H
   have hnb14 := NB268_269.out
   have hnc14 := NB269_268.out
   have hcz15_0 : w5.cell? ⟨gb268, 0, none⟩ = some (.int .i64 a0_0) := (blk_cell BK268.out 0).trans rfl
   have hcz15_1 : w5.cell? ⟨gb268, 1, none⟩ = some (.int .i64 a0_1) := (blk_cell BK268.out 1).trans rfl
   have hfz15_0 := blk_frozen BK268.out 0
   have hfz15_1 := blk_frozen BK268.out 1
   go_wp2_with (first | ((with_reducible refine gate_callee (f := 48) rfl ?_); refine goesL_ (some 7) rfl rfl Tryz.func48 (by kernel_rfl) rfl #[.agg #[.int .i64 a0_0, .int .i64 a0_1]] rfl (by (try simp only [List.map_toArray, List.map_cons, List.map_nil]); first | done | rfl | (simp only [List.length_drop, List.length_take]; rfl)) ?_; (with_reducible refine (r8_num.calls a0_0 a0_1 false _ A6.out).mono ?_); rintro e w16 ⟨rfl, hb⟩; refine ⟨_, rfl, ?_⟩; have n0_ := Sd.mk (blk_below (g := gb268) (o := .cells #[.int .i64 a0_0, .int .i64 a0_1] 25 (0, 0)) (by exact blkF BK268.out) hb); have n1_ := Sd.mk (blk_below (g := gb269) (o := .cells #[.int .i64 a1_0, .int .i64 a1_1] 25 (0, 0)) (by exact blkF BK269.out) hb); have n2_ := Sd.mk (below_step (by repeat (first | (with_reducible first | exact HB.out | apply bal | apply pbd | apply bd1 | refine bst ?_ GE268.out | refine bst ?_ GE269.out) | exact HB.out)) hb); clear BK268; clear BK269; clear HB; have BK268 := n0_; have BK269 := n1_; have HB := n2_; clear n0_ n1_ n2_; (try clear hb); (try clear hb2); (try clear hk); (try clear hi)))
   go_meet
   case rel => exact ⟨_, (false), (by first | rfl | (simp; done) | (simp [*]; done)), H', ⟨by first | omega | exact Nat.le_refl _⟩, ⟨by (with_reducible repeat (first | refine blk_drewN ?_ _ | refine blk_drew ?_ | refine blk_alloc ?_ _)); exact BK268.out⟩, ⟨by (with_reducible repeat (first | refine blk_drewN ?_ _ | refine blk_drew ?_ | refine blk_alloc ?_ _)); exact BK269.out⟩, ⟨by repeat (first | (with_reducible first | exact HB.out | apply bal | apply pbd | apply bd1 | refine bst ?_ GE268.out | refine bst ?_ GE269.out) | exact HB.out)⟩⟩
 case rest =>
  clear HC3
  try clear c1
  try clear p2
  try clear c4
  try clear c7
  try clear c9
  try clear c14
  try clear hcz10_0
  try clear hcz10_1
  try clear hcz12_0
  try clear hcz12_1
  try clear hcz15_0
  try clear hcz15_1
  try clear hfz10_0
  try clear hfz10_1
  try clear hfz12_0
  try clear hfz12_1
  try clear hfz15_0
  try clear hfz15_1
  obtain ⟨kq, x5_2, rfl, HA, HJ2, BK268, BK269, HB⟩ := hcut
  cases kq with
  | zero => exact absurd HA.out (by simp [r8_Less.j0])
  | succ kj2 =>
   have H := HA.out
   clear HA
   simp only [r8_Less.j0] at H
   by_cases c17 : x5_2 = true
   ·subst c17
    have H1 : (some (decide (a0_1 < a1_1))) = some r := by rw [if_pos rfl] at H; exact H
    clear H
    have H := H1
    clear H1
    obtain rfl := Option.some.inj H
    have hnb18 := NB268_269.out
    have hnc18 := NB269_268.out
    have hcz19_0 : wc.cell? ⟨gb268, 0, none⟩ = some (.int .i64 a0_0) := (blk_cell BK268.out 0).trans rfl
    have hcz19_1 : wc.cell? ⟨gb268, 1, none⟩ = some (.int .i64 a0_1) := (blk_cell BK268.out 1).trans rfl
    have hfz19_0 := blk_frozen BK268.out 0
    have hfz19_1 := blk_frozen BK268.out 1
    have hcz20_0 : wc.cell? ⟨gb269, 0, none⟩ = some (.int .i64 a1_0) := (blk_cell BK269.out 0).trans rfl
    have hcz20_1 : wc.cell? ⟨gb269, 1, none⟩ = some (.int .i64 a1_1) := (blk_cell BK269.out 1).trans rfl
    have hfz20_0 := blk_frozen BK269.out 0
    have hfz20_1 := blk_frozen BK269.out 1
    go_wp2
    go_ret
    exact ⟨by first | rfl | (simp [errW_none, errW_some] <;> rfl) | (simp [*, errW_none, errW_some] <;> rfl), by repeat (first | (with_reducible first | exact HB.out | apply bal | apply pbd | apply bd1 | refine bst ?_ GE268.out | refine bst ?_ GE269.out) | exact HB.out)⟩
   ·replace c17 := Bool.eq_false_iff.mpr c17
    subst c17
    have H1 : (if a0_0 = a1_0 then (some false) else (if a0_0 = 5 then (some true) else (some (a1_0 == 4)))) = some r := by rw [if_neg (show ¬ (false = true) by decide)] at H; exact H
    clear H
    have H := H1
    clear H1
    by_cases c21 : a0_0 = a1_0
    ·rw [if_pos c21] at H
     have c21b0 : (a0_0 == a1_0) = true := beq_iff_eq.mpr c21
     have c21b1 : (a0_0 != a1_0) = false := bne_eq_false_iff_eq.mpr c21
     clear c21
     obtain rfl := Option.some.inj H
     have hnb22 := NB268_269.out
     have hnc22 := NB269_268.out
     have hcz23_0 : wc.cell? ⟨gb268, 0, none⟩ = some (.int .i64 a0_0) := (blk_cell BK268.out 0).trans rfl
     have hcz23_1 : wc.cell? ⟨gb268, 1, none⟩ = some (.int .i64 a0_1) := (blk_cell BK268.out 1).trans rfl
     have hfz23_0 := blk_frozen BK268.out 0
     have hfz23_1 := blk_frozen BK268.out 1
     have hcz24_0 : wc.cell? ⟨gb269, 0, none⟩ = some (.int .i64 a1_0) := (blk_cell BK269.out 0).trans rfl
     have hcz24_1 : wc.cell? ⟨gb269, 1, none⟩ = some (.int .i64 a1_1) := (blk_cell BK269.out 1).trans rfl
     have hfz24_0 := blk_frozen BK269.out 0
     have hfz24_1 := blk_frozen BK269.out 1
     go_wp2
     go_ret
     exact ⟨by first | rfl | (simp [errW_none, errW_some] <;> rfl) | (simp [*, errW_none, errW_some] <;> rfl), by repeat (first | (with_reducible first | exact HB.out | apply bal | apply pbd | apply bd1 | refine bst ?_ GE268.out | refine bst ?_ GE269.out) | exact HB.out)⟩
    ·rw [if_neg c21] at H
     have c21b0 : (a0_0 == a1_0) = false := beq_eq_false_iff_ne.mpr c21
     have c21b1 : (a0_0 != a1_0) = true := bne_iff_ne.mpr c21
     by_cases c25 : a0_0 = 5
     ·rw [if_pos c25] at H
      have c25b0 : (a0_0 == 5) = true := beq_iff_eq.mpr c25
      have c25b1 : (a0_0 != 5) = false := bne_eq_false_iff_eq.mpr c25
      clear c25
      obtain rfl := Option.some.inj H
      have hnb26 := NB268_269.out
      have hnc26 := NB269_268.out
      have hcz27_0 : wc.cell? ⟨gb268, 0, none⟩ = some (.int .i64 a0_0) := (blk_cell BK268.out 0).trans rfl
      have hcz27_1 : wc.cell? ⟨gb268, 1, none⟩ = some (.int .i64 a0_1) := (blk_cell BK268.out 1).trans rfl
      have hfz27_0 := blk_frozen BK268.out 0
      have hfz27_1 := blk_frozen BK268.out 1
      have hcz28_0 : wc.cell? ⟨gb269, 0, none⟩ = some (.int .i64 a1_0) := (blk_cell BK269.out 0).trans rfl
      have hcz28_1 : wc.cell? ⟨gb269, 1, none⟩ = some (.int .i64 a1_1) := (blk_cell BK269.out 1).trans rfl
      have hfz28_0 := blk_frozen BK269.out 0
      have hfz28_1 := blk_frozen BK269.out 1
      go_wp2
      go_ret
      exact ⟨by first | rfl | (simp [errW_none, errW_some] <;> rfl) | (simp [*, errW_none, errW_some] <;> rfl), by repeat (first | (with_reducible first | exact HB.out | apply bal | apply pbd | apply bd1 | refine bst ?_ GE268.out | refine bst ?_ GE269.out) | exact HB.out)⟩
     ·rw [if_neg c25] at H
      have c25b0 : (a0_0 == 5) = false := beq_eq_false_iff_ne.mpr c25
      have c25b1 : (a0_0 != 5) = true := bne_iff_ne.mpr c25
      obtain rfl := Option.some.inj H
      have hnb29 := NB268_269.out
      have hnc29 := NB269_268.out
      have hcz30_0 : wc.cell? ⟨gb268, 0, none⟩ = some (.int .i64 a0_0) := (blk_cell BK268.out 0).trans rfl
      have hcz30_1 : wc.cell? ⟨gb268, 1, none⟩ = some (.int .i64 a0_1) := (blk_cell BK268.out 1).trans rfl
      have hfz30_0 := blk_frozen BK268.out 0
      have hfz30_1 := blk_frozen BK268.out 1
      have hcz31_0 : wc.cell? ⟨gb269, 0, none⟩ = some (.int .i64 a1_0) := (blk_cell BK269.out 0).trans rfl
      have hcz31_1 : wc.cell? ⟨gb269, 1, none⟩ = some (.int .i64 a1_1) := (blk_cell BK269.out 1).trans rfl
      have hfz31_0 := blk_frozen BK269.out 0
      have hfz31_1 := blk_frozen BK269.out 1
      go_wp2
      go_ret
      exact ⟨by first | rfl | (simp [errW_none, errW_some] <;> rfl) | (simp [*, errW_none, errW_some] <;> rfl), by repeat (first | (with_reducible first | exact HB.out | apply bal | apply pbd | apply bd1 | refine bst ?_ GE268.out | refine bst ?_ GE269.out) | exact HB.out)⟩
def r8_add.j0 : Nat → Bool → Int → Int → Int → Int → Option (Int × Int)
 | 0, _, _, _, _, _ => none
 | k + 1, x5, x273000, x273001, x274000, x274001 => if x5 = true then ((r8_Num.f (wrap64 (x273001 + x274001))).bind fun bt277 => (some (bt277.1, bt277.2))) else ((r8_num.f x273000 x273001).bind fun t279 => (if t279 = true then (some (x274000, x274001)) else ((r8_num.f x274000 x274001).bind fun t280 => (if t280 = true then (some (x273000, x273001)) else (if (x273000 == x274000 && (x273001 == x274001)) = true then (some (x273000, x273001)) else ((r8_NaN.f).bind fun bt281 => (some (bt281.1, bt281.2))))))))
def r8_add.f (k : Nat) (a0_0 : Int) (a0_1 : Int) (a1_0 : Int) (a1_1 : Int) : Option (Int × Int) := (r8_num.f a0_0 a0_1).bind fun t275 => (if t275 = true then ((r8_num.f a1_0 a1_1).bind fun t276 => (r8_add.j0 k t276 a0_0 a0_1 a1_0 a1_1)) else (r8_add.j0 k false a0_0 a0_1 a1_0 a1_1))
theorem r8_add.mono_l : ∀ k, (∀ y0 y1 y2 y3 y4, LeO (r8_add.j0 k y0 y1 y2 y3 y4) (r8_add.j0 (k + 1) y0 y1 y2 y3 y4))
 | 0 => fun _ _ _ _ _ r h => by simp [r8_add.j0] at h
 | k + 1 => by
  have ih0 := r8_add.mono_l k
  ·intro y0 y1 y2 y3 y4
   unfold r8_add.j0
   repeat' first
   | (with_reducible exact ih0 _ _ _ _ _)
   | (with_reducible exact LeO.refl _)
   | (with_reducible exact LeO.none _)
   | (with_reducible refine LeO.ite ?_ ?_)
   | (with_reducible refine LeO.bind ?_ (fun _ => ?_))
   | exact ih0 _ _ _ _ _
   | exact LeO.none _
   | refine LeO.ite ?_ ?_
   | refine LeO.bind ?_ (fun _ => ?_)
theorem r8_add.mono : ∀ a0 a1 a2 a3 k, LeO (r8_add.f k a0 a1 a2 a3) (r8_add.f (k + 1) a0 a1 a2 a3) := by
 intro a0 a1 a2 a3 k
 have ih0 := r8_add.mono_l k
 unfold r8_add.f
 repeat' first
   | (with_reducible exact ih0 _ _ _ _ _)
   | (with_reducible exact LeO.refl _)
   | (with_reducible exact LeO.none _)
   | (with_reducible refine LeO.ite ?_ ?_)
   | (with_reducible refine LeO.bind ?_ (fun _ => ?_))
   | exact ih0 _ _ _ _ _
   | exact LeO.none _
   | refine LeO.ite ?_ ?_
   | refine LeO.bind ?_ (fun _ => ?_)
set_option maxHeartbeats 8000000 in
set_option maxRecDepth 100000 in
theorem r8_add.calls (k : Nat) (a0_0 : Int) (a0_1 : Int) (a1_0 : Int) (a1_1 : Int) (r1 : Int) (r2 : Int) (w : World) (h : r8_add.f k a0_0 a0_1 a1_0 a1_1 = some (r1, r2)) :
  Calls Tryz.prog 78 #[.agg #[.int .i64 a0_0, .int .i64 a0_1], .agg #[.int .i64 a1_0, .int .i64 a1_1]] w fun e w' => e = .returned (.agg #[.int .i64 r1, .int .i64 r2]) ∧ Below w.heap.size w w' := by
 have hu25 := Tryz.underlying25
 have HB := Sd.mk (Below.refl w.heap.size w)
 have H : ((r8_num.f a0_0 a0_1).bind fun t275 => (if t275 = true then ((r8_num.f a1_0 a1_1).bind fun t276 => (r8_add.j0 k t276 a0_0 a0_1 a1_0 a1_1)) else (r8_add.j0 k false a0_0 a0_1 a1_0 a1_1))) = some (r1, r2) := h
 clear h
 have HC3 := Sd.mk H
 clear H
 go_enter Tryz.func78, Tryz.ntmps78
 go_upto_region 1 with (first | ((with_reducible refine gate_dst (N := 2) rfl ?_); refine box_event ?hg (N := 2) ?hd (cs := #[.int .i64 a0_0, .int .i64 a0_1]) (t := 25) ?hr ?_; (case hd => rfl); (case hg => rfl); (case hr => first | (go_simp; done) | (go_simp; rfl)); intro gb272 hg w4 hbox hb; have n0_ := Sd.mk (below_step (by exact blwF HB.out) hb); have n1_ := Sd.mk (hbox); have n2_ := Sd.mk ((by rw [hg]; exact (below_size (by exact blwF HB.out)) : w.heap.size ≤ gb272)); have n3_ := Sd.mk ((by rw [hg]; exact (below_size (by exact blwF HB.out)) : w.heap.size ≤ gb272)); clear HB; have HB := n0_; have BK272 := n1_; have GW272 := n2_; have GE272 := n3_; clear n0_ n1_ n2_ n3_; clear hb hbox hg) | ((with_reducible refine gate_dst (N := 3) rfl ?_); refine box_event ?hg (N := 3) ?hd (cs := #[.int .i64 a1_0, .int .i64 a1_1]) (t := 25) ?hr ?_; (case hd => rfl); (case hg => rfl); (case hr => first | (go_simp; done) | (go_simp; rfl)); intro gb273 hg w5 hbox hb; have n0_ := Sd.mk (blk_below (g := gb272) (o := .cells #[.int .i64 a0_0, .int .i64 a0_1] 25 (0, 0)) (by exact blkF BK272.out) hb); have n1_ := Sd.mk (below_step (by repeat (first | (with_reducible first | exact HB.out | apply bal | apply pbd | apply bd1 | refine bst ?_ GE272.out) | exact HB.out)) hb); have n2_ := Sd.mk (hbox); have n3_ := Sd.mk ((by rw [hg]; exact (below_size (by repeat (first | (with_reducible first | exact HB.out | apply bal | apply pbd | apply bd1 | refine bst ?_ GE272.out) | exact HB.out))) : w.heap.size ≤ gb273)); have n4_ := Sd.mk ((by rw [hg]; exact (below_size (by repeat (first | (with_reducible first | exact HB.out | apply bal | apply pbd | apply bd1 | refine bst ?_ GE272.out) | exact HB.out))) : w.heap.size ≤ gb273)); have n5_ := Sd.mk ((by rw [hg]; exact Nat.ne_of_lt (blk_lt (g := gb272) (o := .cells #[.int .i64 a0_0, .int .i64 a0_1] 25 (0, 0)) (by exact blkF BK272.out)) : gb272 ≠ gb273)); have n6_ := Sd.mk ((by rw [hg]; exact Nat.ne_of_gt (blk_lt (g := gb272) (o := .cells #[.int .i64 a0_0, .int .i64 a0_1] 25 (0, 0)) (by exact blkF BK272.out)) : gb273 ≠ gb272)); clear BK272; clear HB; have BK272 := n0_; have HB := n1_; have BK273 := n2_; have GW273 := n3_; have GE273 := n4_; have NB272_273 := n5_; have NB273_272 := n6_; clear n0_ n1_ n2_ n3_ n4_ n5_ n6_; clear hb hbox hg) | ((with_reducible refine gate_dst (N := 4) rfl ?_); refine box_event ?hg (N := 4) ?hd (cs := #[.int .i64 0, .int .i64 0]) (t := 25) ?hr ?_; (case hd => rfl); (case hg => rfl); (case hr => first | (go_simp; done) | (go_simp; rfl)); intro gb274 hg w6 hbox hb; have n0_ := Sd.mk (blk_below (g := gb272) (o := .cells #[.int .i64 a0_0, .int .i64 a0_1] 25 (0, 0)) (by exact blkF BK272.out) hb); have n1_ := Sd.mk (blk_below (g := gb273) (o := .cells #[.int .i64 a1_0, .int .i64 a1_1] 25 (0, 0)) (by exact blkF BK273.out) hb); have n2_ := Sd.mk (below_step (by repeat (first | (with_reducible first | exact HB.out | apply bal | apply pbd | apply bd1 | refine bst ?_ GE272.out | refine bst ?_ GE273.out) | exact HB.out)) hb); have n3_ := Sd.mk (hbox); have n4_ := Sd.mk ((by rw [hg]; exact (below_size (by repeat (first | (with_reducible first | exact HB.out | apply bal | apply pbd | apply bd1 | refine bst ?_ GE272.out | refine bst ?_ GE273.out) | exact HB.out))) : w.heap.size ≤ gb274)); have n5_ := Sd.mk ((by rw [hg]; exact (below_size (by repeat (first | (with_reducible first | exact HB.out | apply bal | apply pbd | apply bd1 | refine bst ?_ GE272.out | refine bst ?_ GE273.out) | exact HB.out))) : w.heap.size ≤ gb274)); have n6_ := Sd.mk ((by rw [hg]; exact Nat.ne_of_lt (blk_lt (g := gb272) (o := .cells #[.int .i64 a0_0, .int .i64 a0_1] 25 (0, 0)) (by exact blkF BK272.out)) : gb272 ≠ gb274)); have n7_ := Sd.mk ((by rw [hg]; exact Nat.ne_of_gt (blk_lt (g := gb272) (o := .cells #[.int .i64 a0_0, .int .i64 a0_1] 25 (0, 0)) (by exact blkF BK272.out)) : gb274 ≠ gb272)); have n8_ := Sd.mk ((by rw [hg]; exact Nat.ne_of_lt (blk_lt (g := gb273) (o := .cells #[.int .i64 a1_0, .int .i64 a1_1] 25 (0, 0)) (by exact blkF BK273.out)) : gb273 ≠ gb274)); have n9_ := Sd.mk ((by rw [hg]; exact Nat.ne_of_gt (blk_lt (g := gb273) (o := .cells #[.int .i64 a1_0, .int .i64 a1_1] 25 (0, 0)) (by exact blkF BK273.out)) : gb274 ≠ gb273)); clear BK272; clear BK273; clear HB; have BK272 := n0_; have BK273 := n1_; have HB := n2_; have BK274 := n3_; have GW274 := n4_; have GE274 := n5_; have NB272_274 := n6_; have NB274_272 := n7_; have NB273_274 := n8_; have NB274_273 := n9_; clear n0_ n1_ n2_ n3_ n4_ n5_ n6_ n7_ n8_ n9_; clear hb hbox hg))
 (try simp only [Act.put, List.setIfInBounds_toArray, List.set_cons_zero, List.set_cons_succ])
 go_cut [5] (fun v5 wc => ∃ (kq : Nat) (x5_2 : Bool), v5 = .bool x5_2 ∧ Sd (r8_add.j0 kq x5_2 a0_0 a0_1 a1_0 a1_1 = some (r1, r2)) ∧ Sd (kq ≤ k) ∧ Sd (wc.heap[gb272]? = some (.cells #[.int .i64 a0_0, .int .i64 a0_1] 25 (0, 0))) ∧ Sd (wc.heap[gb273]? = some (.cells #[.int .i64 a1_0, .int .i64 a1_1] 25 (0, 0))) ∧ Sd (wc.heap[gb274]? = some (.cells #[.int .i64 0, .int .i64 0] 25 (0, 0))) ∧ Sd (Below w.heap.size w wc))
 case first =>
  have H := HC3.out
  clear HC3
  replace H := Option.bind_eq_some_iff.mp H
  obtain ⟨t275, A70, H⟩ := H
  replace H : (if t275 = true then ((r8_num.f a1_0 a1_1).bind fun t276 => (r8_add.j0 k t276 a0_0 a0_1 a1_0 a1_1)) else (r8_add.j0 k false a0_0 a0_1 a1_0 a1_1)) = some (r1, r2) := H
  have A7 := Sd.mk A70
  clear A70
  by_cases c8 : t275 = true
  ·subst c8
   have H1 : ((r8_num.f a1_0 a1_1).bind fun t276 => (r8_add.j0 k t276 a0_0 a0_1 a1_0 a1_1)) = some (r1, r2) := by rw [if_pos rfl] at H; exact H
   clear H
   have H := H1
   clear H1
   replace H := Option.bind_eq_some_iff.mp H
   obtain ⟨t276, A90, H⟩ := H
   replace H : (r8_add.j0 k t276 a0_0 a0_1 a1_0 a1_1) = some (r1, r2) := H
   have A9 := Sd.mk A90
   clear A90
   have H' := Sd.mk H
   clear H
   have hnb10 := NB272_273.out
   have hnc10 := NB273_272.out
   have hnb11 := NB272_274.out
   have hnc11 := NB274_272.out
   have hcz12_0 : w6.cell? ⟨gb272, 0, none⟩ = some (.int .i64 a0_0) := (blk_cell BK272.out 0).trans rfl
   have hcz12_1 : w6.cell? ⟨gb272, 1, none⟩ = some (.int .i64 a0_1) := (blk_cell BK272.out 1).trans rfl
   have hfz12_0 := blk_frozen BK272.out 0
   have hfz12_1 := blk_frozen BK272.out 1
   go_wp2_with (first | ((with_reducible refine gate_callee (f := 48) rfl ?_); refine goesL_ (some 7) rfl rfl Tryz.func48 (by kernel_rfl) rfl #[.agg #[.int .i64 a0_0, .int .i64 a0_1]] rfl (by (try simp only [List.map_toArray, List.map_cons, List.map_nil]); first | done | rfl | (simp only [List.length_drop, List.length_take]; rfl)) ?_; (with_reducible refine (r8_num.calls a0_0 a0_1 true _ A7.out).mono ?_); rintro e w13 ⟨rfl, hb⟩; refine ⟨_, rfl, ?_⟩; have n0_ := Sd.mk (blk_below (g := gb272) (o := .cells #[.int .i64 a0_0, .int .i64 a0_1] 25 (0, 0)) (by exact blkF BK272.out) hb); have n1_ := Sd.mk (blk_below (g := gb273) (o := .cells #[.int .i64 a1_0, .int .i64 a1_1] 25 (0, 0)) (by exact blkF BK273.out) hb); have n2_ := Sd.mk (blk_below (g := gb274) (o := .cells #[.int .i64 0, .int .i64 0] 25 (0, 0)) (by exact blkF BK274.out) hb); have n3_ := Sd.mk (below_step (by repeat (first | (with_reducible first | exact HB.out | apply bal | apply pbd | apply bd1 | refine bst ?_ GE272.out | refine bst ?_ GE273.out | refine bst ?_ GE274.out) | exact HB.out)) hb); clear BK272; clear BK273; clear BK274; clear HB; have BK272 := n0_; have BK273 := n1_; have BK274 := n2_; have HB := n3_; clear n0_ n1_ n2_ n3_; (try clear hb); (try clear hb2); (try clear hk); (try clear hi); have hnb14 := NB273_274.out; have hnc14 := NB274_273.out; have hcz15_0 : w13.cell? ⟨gb273, 0, none⟩ = some (.int .i64 a1_0) := (blk_cell BK273.out 0).trans rfl; have hcz15_1 : w13.cell? ⟨gb273, 1, none⟩ = some (.int .i64 a1_1) := (blk_cell BK273.out 1).trans rfl; have hfz15_0 := blk_frozen BK273.out 0; have hfz15_1 := blk_frozen BK273.out 1) | (go_at_call 48; (with_reducible refine (r8_num.calls a1_0 a1_1 t276 _ A9.out).mono ?_); rintro e w16 ⟨rfl, hb⟩; have n0_ := Sd.mk (blk_below (g := gb272) (o := .cells #[.int .i64 a0_0, .int .i64 a0_1] 25 (0, 0)) (by exact blkF BK272.out) hb); have n1_ := Sd.mk (blk_below (g := gb273) (o := .cells #[.int .i64 a1_0, .int .i64 a1_1] 25 (0, 0)) (by exact blkF BK273.out) hb); have n2_ := Sd.mk (blk_below (g := gb274) (o := .cells #[.int .i64 0, .int .i64 0] 25 (0, 0)) (by exact blkF BK274.out) hb); have n3_ := Sd.mk (below_step (by repeat (first | (with_reducible first | exact HB.out | apply bal | apply pbd | apply bd1 | refine bst ?_ GE272.out | refine bst ?_ GE273.out | refine bst ?_ GE274.out) | exact HB.out)) hb); clear BK272; clear BK273; clear BK274; clear HB; have BK272 := n0_; have BK273 := n1_; have BK274 := n2_; have HB := n3_; clear n0_ n1_ n2_ n3_; (try clear hb); (try clear hb2); (try clear hk); (try clear hi)))
   go_meet
   case rel => exact ⟨_, (t276), (by first | rfl | (simp; done) | (simp [*]; done)), H', ⟨by first | omega | exact Nat.le_refl _⟩, ⟨by (with_reducible repeat (first | refine blk_drewN ?_ _ | refine blk_drew ?_ | refine blk_alloc ?_ _)); exact BK272.out⟩, ⟨by (with_reducible repeat (first | refine blk_drewN ?_ _ | refine blk_drew ?_ | refine blk_alloc ?_ _)); exact BK273.out⟩, ⟨by (with_reducible repeat (first | refine blk_drewN ?_ _ | refine blk_drew ?_ | refine blk_alloc ?_ _)); exact BK274.out⟩, ⟨by repeat (first | (with_reducible first | exact HB.out | apply bal | apply pbd | apply bd1 | refine bst ?_ GE272.out | refine bst ?_ GE273.out | refine bst ?_ GE274.out) | exact HB.out)⟩⟩
  ·replace c8 := Bool.eq_false_iff.mpr c8
   subst c8
   have H1 : (r8_add.j0 k false a0_0 a0_1 a1_0 a1_1) = some (r1, r2) := by rw [if_neg (show ¬ (false = true) by decide)] at H; exact H
   clear H
   have H := H1
   clear H1
   have H' := Sd.mk H
   clear H
   have hnb17 := NB272_273.out
   have hnc17 := NB273_272.out
   have hnb18 := NB272_274.out
   have hnc18 := NB274_272.out
   have hcz19_0 : w6.cell? ⟨gb272, 0, none⟩ = some (.int .i64 a0_0) := (blk_cell BK272.out 0).trans rfl
   have hcz19_1 : w6.cell? ⟨gb272, 1, none⟩ = some (.int .i64 a0_1) := (blk_cell BK272.out 1).trans rfl
   have hfz19_0 := blk_frozen BK272.out 0
   have hfz19_1 := blk_frozen BK272.out 1
   go_wp2_with (first | ((with_reducible refine gate_callee (f := 48) rfl ?_); refine goesL_ (some 7) rfl rfl Tryz.func48 (by kernel_rfl) rfl #[.agg #[.int .i64 a0_0, .int .i64 a0_1]] rfl (by (try simp only [List.map_toArray, List.map_cons, List.map_nil]); first | done | rfl | (simp only [List.length_drop, List.length_take]; rfl)) ?_; (with_reducible refine (r8_num.calls a0_0 a0_1 false _ A7.out).mono ?_); rintro e w20 ⟨rfl, hb⟩; refine ⟨_, rfl, ?_⟩; have n0_ := Sd.mk (blk_below (g := gb272) (o := .cells #[.int .i64 a0_0, .int .i64 a0_1] 25 (0, 0)) (by exact blkF BK272.out) hb); have n1_ := Sd.mk (blk_below (g := gb273) (o := .cells #[.int .i64 a1_0, .int .i64 a1_1] 25 (0, 0)) (by exact blkF BK273.out) hb); have n2_ := Sd.mk (blk_below (g := gb274) (o := .cells #[.int .i64 0, .int .i64 0] 25 (0, 0)) (by exact blkF BK274.out) hb); have n3_ := Sd.mk (below_step (by repeat (first | (with_reducible first | exact HB.out | apply bal | apply pbd | apply bd1 | refine bst ?_ GE272.out | refine bst ?_ GE273.out | refine bst ?_ GE274.out) | exact HB.out)) hb); clear BK272; clear BK273; clear BK274; clear HB; have BK272 := n0_; have BK273 := n1_; have BK274 := n2_; have HB := n3_; clear n0_ n1_ n2_ n3_; (try clear hb); (try clear hb2); (try clear hk); (try clear hi)))
   go_meet
   case rel => exact ⟨_, (false), (by first | rfl | (simp; done) | (simp [*]; done)), H', ⟨by first | omega | exact Nat.le_refl _⟩, ⟨by (with_reducible repeat (first | refine blk_drewN ?_ _ | refine blk_drew ?_ | refine blk_alloc ?_ _)); exact BK272.out⟩, ⟨by (with_reducible repeat (first | refine blk_drewN ?_ _ | refine blk_drew ?_ | refine blk_alloc ?_ _)); exact BK273.out⟩, ⟨by (with_reducible repeat (first | refine blk_drewN ?_ _ | refine blk_drew ?_ | refine blk_alloc ?_ _)); exact BK274.out⟩, ⟨by repeat (first | (with_reducible first | exact HB.out | apply bal | apply pbd | apply bd1 | refine bst ?_ GE272.out | refine bst ?_ GE273.out | refine bst ?_ GE274.out) | exact HB.out)⟩⟩
 case rest =>
  clear HC3
  try clear c1
  try clear p2
  try clear c4
  try clear c7
  try clear c8
  try clear c10
  try clear c11
  try clear c14
  try clear c17
  try clear c18
  try clear hcz12_0
  try clear hcz12_1
  try clear hcz15_0
  try clear hcz15_1
  try clear hcz19_0
  try clear hcz19_1
  try clear hfz12_0
  try clear hfz12_1
  try clear hfz15_0
  try clear hfz15_1
  try clear hfz19_0
  try clear hfz19_1
  obtain ⟨kq, x5_2, rfl, HA, HJ2, BK272, BK273, BK274, HB⟩ := hcut
  cases kq with
  | zero => exact absurd HA.out (by simp [r8_add.j0])
  | succ kj2 =>
   have H := HA.out
   clear HA
   simp only [r8_add.j0] at H
   by_cases c21 : x5_2 = true
   ·subst c21
    have H1 : ((r8_Num.f (wrap64 (a0_1 + a1_1))).bind fun bt277 => (some (bt277.1, bt277.2))) = some (r1, r2) := by rw [if_pos rfl] at H; exact H
    clear H
    have H := H1
    clear H1
    replace H := Option.bind_eq_some_iff.mp H
    obtain ⟨⟨t277, t278⟩, A220, H⟩ := H
    replace H : (some (t277, t278)) = some (r1, r2) := H
    have A22 := Sd.mk A220
    clear A220
    simp only [Option.some.injEq, Prod.mk.injEq] at H
    obtain ⟨rfl, rfl⟩ := H
    have hnb23 := NB272_273.out
    have hnc23 := NB273_272.out
    have hnb24 := NB272_274.out
    have hnc24 := NB274_272.out
    have hcz25_0 : wc.cell? ⟨gb272, 0, none⟩ = some (.int .i64 a0_0) := (blk_cell BK272.out 0).trans rfl
    have hcz25_1 : wc.cell? ⟨gb272, 1, none⟩ = some (.int .i64 a0_1) := (blk_cell BK272.out 1).trans rfl
    have hfz25_0 := blk_frozen BK272.out 0
    have hfz25_1 := blk_frozen BK272.out 1
    have hnb26 := NB273_274.out
    have hnc26 := NB274_273.out
    have hcz27_0 : wc.cell? ⟨gb273, 0, none⟩ = some (.int .i64 a1_0) := (blk_cell BK273.out 0).trans rfl
    have hcz27_1 : wc.cell? ⟨gb273, 1, none⟩ = some (.int .i64 a1_1) := (blk_cell BK273.out 1).trans rfl
    have hfz27_0 := blk_frozen BK273.out 0
    have hfz27_1 := blk_frozen BK273.out 1
    go_wp2_with (first | ((with_reducible refine gate_callee (f := 20) rfl ?_); refine goesL_ (some 17) rfl rfl Tryz.func20 (by kernel_rfl) rfl #[.int .i64 (wrap64 (a0_1 + a1_1))] rfl (by (try simp only [List.map_toArray, List.map_cons, List.map_nil]); first | done | rfl | (simp only [List.length_drop, List.length_take]; rfl)) ?_; (with_reducible refine (r8_Num.calls (wrap64 (a0_1 + a1_1)) t277 t278 _ A22.out).mono ?_); rintro e w28 ⟨rfl, hb⟩; refine ⟨_, rfl, ?_⟩; have n0_ := Sd.mk (blk_below (g := gb272) (o := .cells #[.int .i64 a0_0, .int .i64 a0_1] 25 (0, 0)) (by exact blkF BK272.out) hb); have n1_ := Sd.mk (blk_below (g := gb273) (o := .cells #[.int .i64 a1_0, .int .i64 a1_1] 25 (0, 0)) (by exact blkF BK273.out) hb); have n2_ := Sd.mk (blk_below (g := gb274) (o := .cells #[.int .i64 0, .int .i64 0] 25 (0, 0)) (by exact blkF BK274.out) hb); have n3_ := Sd.mk (below_step (by repeat (first | (with_reducible first | exact HB.out | apply bal | apply pbd | apply bd1 | refine bst ?_ GE272.out | refine bst ?_ GE273.out | refine bst ?_ GE274.out) | exact HB.out)) hb); clear BK272; clear BK273; clear BK274; clear HB; have BK272 := n0_; have BK273 := n1_; have BK274 := n2_; have HB := n3_; clear n0_ n1_ n2_ n3_; (try clear hb); (try clear hb2); (try clear hk); (try clear hi); have hcz29_0 : w28.cell? ⟨gb274, 0, none⟩ = some (.int .i64 0) := (blk_cell BK274.out 0).trans rfl; have hcz29_1 : w28.cell? ⟨gb274, 1, none⟩ = some (.int .i64 0) := (blk_cell BK274.out 1).trans rfl; have hfz29_0 := blk_frozen BK274.out 0; have hfz29_1 := blk_frozen BK274.out 1))
    refine bodyPost_ret (results_cell_row rfl _ _ gb274 25 #[.int .i64 t277, .int .i64 t278] (0, 0) _ rfl (by (with_reducible repeat (first | refine blk_drewN ?_ _ | refine blk_drew ?_ | refine blk_alloc ?_ _)); refine blk_put (cs := #[.int .i64 t277, .int .i64 0]) ?_ 1 _ rfl; (with_reducible repeat (first | refine blk_drewN ?_ _ | refine blk_drew ?_ | refine blk_alloc ?_ _)); refine blk_put (cs := #[.int .i64 0, .int .i64 0]) ?_ 0 _ rfl; (with_reducible repeat (first | refine blk_drewN ?_ _ | refine blk_drew ?_ | refine blk_alloc ?_ _)); exact BK274.out) Tryz.underlying25 rfl (by kernel_rfl)) rfl ?_
    exact ⟨by first | rfl | (simp [errW_none, errW_some] <;> rfl) | (simp [*, errW_none, errW_some] <;> rfl), by repeat (first | (with_reducible first | exact HB.out | apply bal | apply pbd | apply bd1 | refine bst ?_ GE272.out | refine bst ?_ GE273.out | refine bst ?_ GE274.out) | exact HB.out)⟩
   ·replace c21 := Bool.eq_false_iff.mpr c21
    subst c21
    have H1 : ((r8_num.f a0_0 a0_1).bind fun t279 => (if t279 = true then (some (a1_0, a1_1)) else ((r8_num.f a1_0 a1_1).bind fun t280 => (if t280 = true then (some (a0_0, a0_1)) else (if (a0_0 == a1_0 && (a0_1 == a1_1)) = true then (some (a0_0, a0_1)) else ((r8_NaN.f).bind fun bt281 => (some (bt281.1, bt281.2)))))))) = some (r1, r2) := by rw [if_neg (show ¬ (false = true) by decide)] at H; exact H
    clear H
    have H := H1
    clear H1
    replace H := Option.bind_eq_some_iff.mp H
    obtain ⟨t279, A300, H⟩ := H
    replace H : (if t279 = true then (some (a1_0, a1_1)) else ((r8_num.f a1_0 a1_1).bind fun t280 => (if t280 = true then (some (a0_0, a0_1)) else (if (a0_0 == a1_0 && (a0_1 == a1_1)) = true then (some (a0_0, a0_1)) else ((r8_NaN.f).bind fun bt281 => (some (bt281.1, bt281.2))))))) = some (r1, r2) := H
    have A30 := Sd.mk A300
    clear A300
    by_cases c31 : t279 = true
    ·subst c31
     have H1 : (some (a1_0, a1_1)) = some (r1, r2) := by rw [if_pos rfl] at H; exact H
     clear H
     have H := H1
     clear H1
     simp only [Option.some.injEq, Prod.mk.injEq] at H
     obtain ⟨rfl, rfl⟩ := H
     have hnb32 := NB272_273.out
     have hnc32 := NB273_272.out
     have hnb33 := NB272_274.out
     have hnc33 := NB274_272.out
     have hcz34_0 : wc.cell? ⟨gb272, 0, none⟩ = some (.int .i64 a0_0) := (blk_cell BK272.out 0).trans rfl
     have hcz34_1 : wc.cell? ⟨gb272, 1, none⟩ = some (.int .i64 a0_1) := (blk_cell BK272.out 1).trans rfl
     have hfz34_0 := blk_frozen BK272.out 0
     have hfz34_1 := blk_frozen BK272.out 1
     go_wp2_with (first | ((with_reducible refine gate_callee (f := 48) rfl ?_); refine goesL_ (some 20) rfl rfl Tryz.func48 (by kernel_rfl) rfl #[.agg #[.int .i64 a0_0, .int .i64 a0_1]] rfl (by (try simp only [List.map_toArray, List.map_cons, List.map_nil]); first | done | rfl | (simp only [List.length_drop, List.length_take]; rfl)) ?_; (with_reducible refine (r8_num.calls a0_0 a0_1 true _ A30.out).mono ?_); rintro e w35 ⟨rfl, hb⟩; refine ⟨_, rfl, ?_⟩; have n0_ := Sd.mk (blk_below (g := gb272) (o := .cells #[.int .i64 a0_0, .int .i64 a0_1] 25 (0, 0)) (by exact blkF BK272.out) hb); have n1_ := Sd.mk (blk_below (g := gb273) (o := .cells #[.int .i64 a1_0, .int .i64 a1_1] 25 (0, 0)) (by exact blkF BK273.out) hb); have n2_ := Sd.mk (blk_below (g := gb274) (o := .cells #[.int .i64 0, .int .i64 0] 25 (0, 0)) (by exact blkF BK274.out) hb); have n3_ := Sd.mk (below_step (by repeat (first | (with_reducible first | exact HB.out | apply bal | apply pbd | apply bd1 | refine bst ?_ GE272.out | refine bst ?_ GE273.out | refine bst ?_ GE274.out) | exact HB.out)) hb); clear BK272; clear BK273; clear BK274; clear HB; have BK272 := n0_; have BK273 := n1_; have BK274 := n2_; have HB := n3_; clear n0_ n1_ n2_ n3_; (try clear hb); (try clear hb2); (try clear hk); (try clear hi); have hnb36 := NB273_274.out; have hnc36 := NB274_273.out; have hcz37_0 : w35.cell? ⟨gb273, 0, none⟩ = some (.int .i64 a1_0) := (blk_cell BK273.out 0).trans rfl; have hcz37_1 : w35.cell? ⟨gb273, 1, none⟩ = some (.int .i64 a1_1) := (blk_cell BK273.out 1).trans rfl; have hfz37_0 := blk_frozen BK273.out 0; have hfz37_1 := blk_frozen BK273.out 1; have hcz38_0 : w35.cell? ⟨gb274, 0, none⟩ = some (.int .i64 0) := (blk_cell BK274.out 0).trans rfl; have hcz38_1 : w35.cell? ⟨gb274, 1, none⟩ = some (.int .i64 0) := (blk_cell BK274.out 1).trans rfl; have hfz38_0 := blk_frozen BK274.out 0; have hfz38_1 := blk_frozen BK274.out 1))
     refine bodyPost_ret (results_cell_row rfl _ _ gb274 25 #[.int .i64 a1_0, .int .i64 a1_1] (0, 0) _ rfl (by (with_reducible repeat (first | refine blk_drewN ?_ _ | refine blk_drew ?_ | refine blk_alloc ?_ _)); refine blk_put (cs := #[.int .i64 a1_0, .int .i64 0]) ?_ 1 _ rfl; (with_reducible repeat (first | refine blk_drewN ?_ _ | refine blk_drew ?_ | refine blk_alloc ?_ _)); refine blk_put (cs := #[.int .i64 0, .int .i64 0]) ?_ 0 _ rfl; (with_reducible repeat (first | refine blk_drewN ?_ _ | refine blk_drew ?_ | refine blk_alloc ?_ _)); exact BK274.out) Tryz.underlying25 rfl (by kernel_rfl)) rfl ?_
     exact ⟨by first | rfl | (simp [errW_none, errW_some] <;> rfl) | (simp [*, errW_none, errW_some] <;> rfl), by repeat (first | (with_reducible first | exact HB.out | apply bal | apply pbd | apply bd1 | refine bst ?_ GE272.out | refine bst ?_ GE273.out | refine bst ?_ GE274.out) | exact HB.out)⟩
    ·replace c31 := Bool.eq_false_iff.mpr c31
     subst c31
     have H1 : ((r8_num.f a1_0 a1_1).bind fun t280 => (if t280 = true then (some (a0_0, a0_1)) else (if (a0_0 == a1_0 && (a0_1 == a1_1)) = true then (some (a0_0, a0_1)) else ((r8_NaN.f).bind fun bt281 => (some (bt281.1, bt281.2)))))) = some (r1, r2) := by rw [if_neg (show ¬ (false = true) by decide)] at H; exact H
     clear H
     have H := H1
     clear H1
     replace H := Option.bind_eq_some_iff.mp H
     obtain ⟨t280, A390, H⟩ := H
     replace H : (if t280 = true then (some (a0_0, a0_1)) else (if (a0_0 == a1_0 && (a0_1 == a1_1)) = true then (some (a0_0, a0_1)) else ((r8_NaN.f).bind fun bt281 => (some (bt281.1, bt281.2))))) = some (r1, r2) := H
     have A39 := Sd.mk A390
     clear A390
     by_cases c40 : t280 = true
     ·subst c40
      have H1 : (some (a0_0, a0_1)) = some (r1, r2) := by rw [if_pos rfl] at H; exact H
      clear H
      have H := H1
      clear H1
      simp only [Option.some.injEq, Prod.mk.injEq] at H
      obtain ⟨rfl, rfl⟩ := H
      have hnb41 := NB272_273.out
      have hnc41 := NB273_272.out
      have hnb42 := NB272_274.out
      have hnc42 := NB274_272.out
      have hcz43_0 : wc.cell? ⟨gb272, 0, none⟩ = some (.int .i64 a0_0) := (blk_cell BK272.out 0).trans rfl
      have hcz43_1 : wc.cell? ⟨gb272, 1, none⟩ = some (.int .i64 a0_1) := (blk_cell BK272.out 1).trans rfl
      have hfz43_0 := blk_frozen BK272.out 0
      have hfz43_1 := blk_frozen BK272.out 1
      go_wp2_with (first | ((with_reducible refine gate_callee (f := 48) rfl ?_); refine goesL_ (some 20) rfl rfl Tryz.func48 (by kernel_rfl) rfl #[.agg #[.int .i64 a0_0, .int .i64 a0_1]] rfl (by (try simp only [List.map_toArray, List.map_cons, List.map_nil]); first | done | rfl | (simp only [List.length_drop, List.length_take]; rfl)) ?_; (with_reducible refine (r8_num.calls a0_0 a0_1 false _ A30.out).mono ?_); rintro e w44 ⟨rfl, hb⟩; refine ⟨_, rfl, ?_⟩; have n0_ := Sd.mk (blk_below (g := gb272) (o := .cells #[.int .i64 a0_0, .int .i64 a0_1] 25 (0, 0)) (by exact blkF BK272.out) hb); have n1_ := Sd.mk (blk_below (g := gb273) (o := .cells #[.int .i64 a1_0, .int .i64 a1_1] 25 (0, 0)) (by exact blkF BK273.out) hb); have n2_ := Sd.mk (blk_below (g := gb274) (o := .cells #[.int .i64 0, .int .i64 0] 25 (0, 0)) (by exact blkF BK274.out) hb); have n3_ := Sd.mk (below_step (by repeat (first | (with_reducible first | exact HB.out | apply bal | apply pbd | apply bd1 | refine bst ?_ GE272.out | refine bst ?_ GE273.out | refine bst ?_ GE274.out) | exact HB.out)) hb); clear BK272; clear BK273; clear BK274; clear HB; have BK272 := n0_; have BK273 := n1_; have BK274 := n2_; have HB := n3_; clear n0_ n1_ n2_ n3_; (try clear hb); (try clear hb2); (try clear hk); (try clear hi); have hnb45 := NB273_274.out; have hnc45 := NB274_273.out; have hcz46_0 : w44.cell? ⟨gb273, 0, none⟩ = some (.int .i64 a1_0) := (blk_cell BK273.out 0).trans rfl; have hcz46_1 : w44.cell? ⟨gb273, 1, none⟩ = some (.int .i64 a1_1) := (blk_cell BK273.out 1).trans rfl; have hfz46_0 := blk_frozen BK273.out 0; have hfz46_1 := blk_frozen BK273.out 1) | ((with_reducible refine gate_callee (f := 48) rfl ?_); refine goesL_ (some 24) rfl rfl Tryz.func48 (by kernel_rfl) rfl #[.agg #[.int .i64 a1_0, .int .i64 a1_1]] rfl (by (try simp only [List.map_toArray, List.map_cons, List.map_nil]); first | done | rfl | (simp only [List.length_drop, List.length_take]; rfl)) ?_; (with_reducible refine (r8_num.calls a1_0 a1_1 true _ A39.out).mono ?_); rintro e w47 ⟨rfl, hb⟩; refine ⟨_, rfl, ?_⟩; have n0_ := Sd.mk (blk_below (g := gb272) (o := .cells #[.int .i64 a0_0, .int .i64 a0_1] 25 (0, 0)) (by exact blkF BK272.out) hb); have n1_ := Sd.mk (blk_below (g := gb273) (o := .cells #[.int .i64 a1_0, .int .i64 a1_1] 25 (0, 0)) (by exact blkF BK273.out) hb); have n2_ := Sd.mk (blk_below (g := gb274) (o := .cells #[.int .i64 0, .int .i64 0] 25 (0, 0)) (by exact blkF BK274.out) hb); have n3_ := Sd.mk (below_step (by repeat (first | (with_reducible first | exact HB.out | apply bal | apply pbd | apply bd1 | refine bst ?_ GE272.out | refine bst ?_ GE273.out | refine bst ?_ GE274.out) | exact HB.out)) hb); clear BK272; clear BK273; clear BK274; clear HB; have BK272 := n0_; have BK273 := n1_; have BK274 := n2_; have HB := n3_; clear n0_ n1_ n2_ n3_; (try clear hb); (try clear hb2); (try clear hk); (try clear hi); have hcz48_0 : w47.cell? ⟨gb272, 0, none⟩ = some (.int .i64 a0_0) := (blk_cell BK272.out 0).trans rfl; have hcz48_1 : w47.cell? ⟨gb272, 1, none⟩ = some (.int .i64 a0_1) := (blk_cell BK272.out 1).trans rfl; have hfz48_0 := blk_frozen BK272.out 0; have hfz48_1 := blk_frozen BK272.out 1; have hcz49_0 : w47.cell? ⟨gb274, 0, none⟩ = some (.int .i64 0) := (blk_cell BK274.out 0).trans rfl; have hcz49_1 : w47.cell? ⟨gb274, 1, none⟩ = some (.int .i64 0) := (blk_cell BK274.out 1).trans rfl; have hfz49_0 := blk_frozen BK274.out 0; have hfz49_1 := blk_frozen BK274.out 1))
      refine bodyPost_ret (results_cell_row rfl _ _ gb274 25 #[.int .i64 a0_0, .int .i64 a0_1] (0, 0) _ rfl (by (with_reducible repeat (first | refine blk_drewN ?_ _ | refine blk_drew ?_ | refine blk_alloc ?_ _)); refine blk_put (cs := #[.int .i64 a0_0, .int .i64 0]) ?_ 1 _ rfl; (with_reducible repeat (first | refine blk_drewN ?_ _ | refine blk_drew ?_ | refine blk_alloc ?_ _)); refine blk_put (cs := #[.int .i64 0, .int .i64 0]) ?_ 0 _ rfl; (with_reducible repeat (first | refine blk_drewN ?_ _ | refine blk_drew ?_ | refine blk_alloc ?_ _)); exact BK274.out) Tryz.underlying25 rfl (by kernel_rfl)) rfl ?_
      exact ⟨by first | rfl | (simp [errW_none, errW_some] <;> rfl) | (simp [*, errW_none, errW_some] <;> rfl), by repeat (first | (with_reducible first | exact HB.out | apply bal | apply pbd | apply bd1 | refine bst ?_ GE272.out | refine bst ?_ GE273.out | refine bst ?_ GE274.out) | exact HB.out)⟩
     ·replace c40 := Bool.eq_false_iff.mpr c40
      subst c40
      have H1 : (if (a0_0 == a1_0 && (a0_1 == a1_1)) = true then (some (a0_0, a0_1)) else ((r8_NaN.f).bind fun bt281 => (some (bt281.1, bt281.2)))) = some (r1, r2) := by rw [if_neg (show ¬ (false = true) by decide)] at H; exact H
      clear H
      have H := H1
      clear H1
      by_cases c50 : (a0_0 == a1_0 && (a0_1 == a1_1)) = true
      ·rw [if_pos c50] at H
       have c50b0 : (a0_0 == a1_0 && (a0_1 == a1_1)) = true := c50
       (try (have c50b1 : decide (a0_0 = a1_0 && (a0_1 == a1_1)) = true := by simpa using c50))
       (try (have c50b2 : (a0_0 == a1_0 && (a0_1 == a1_1)) = true := by simpa using c50))
       clear c50
       simp only [Option.some.injEq, Prod.mk.injEq] at H
       obtain ⟨rfl, rfl⟩ := H
       have hnb51 := NB272_273.out
       have hnc51 := NB273_272.out
       have hnb52 := NB272_274.out
       have hnc52 := NB274_272.out
       have hcz53_0 : wc.cell? ⟨gb272, 0, none⟩ = some (.int .i64 a0_0) := (blk_cell BK272.out 0).trans rfl
       have hcz53_1 : wc.cell? ⟨gb272, 1, none⟩ = some (.int .i64 a0_1) := (blk_cell BK272.out 1).trans rfl
       have hfz53_0 := blk_frozen BK272.out 0
       have hfz53_1 := blk_frozen BK272.out 1
       go_wp2_with (first | ((with_reducible refine gate_callee (f := 48) rfl ?_); refine goesL_ (some 20) rfl rfl Tryz.func48 (by kernel_rfl) rfl #[.agg #[.int .i64 a0_0, .int .i64 a0_1]] rfl (by (try simp only [List.map_toArray, List.map_cons, List.map_nil]); first | done | rfl | (simp only [List.length_drop, List.length_take]; rfl)) ?_; (with_reducible refine (r8_num.calls a0_0 a0_1 false _ A30.out).mono ?_); rintro e w54 ⟨rfl, hb⟩; refine ⟨_, rfl, ?_⟩; have n0_ := Sd.mk (blk_below (g := gb272) (o := .cells #[.int .i64 a0_0, .int .i64 a0_1] 25 (0, 0)) (by exact blkF BK272.out) hb); have n1_ := Sd.mk (blk_below (g := gb273) (o := .cells #[.int .i64 a1_0, .int .i64 a1_1] 25 (0, 0)) (by exact blkF BK273.out) hb); have n2_ := Sd.mk (blk_below (g := gb274) (o := .cells #[.int .i64 0, .int .i64 0] 25 (0, 0)) (by exact blkF BK274.out) hb); have n3_ := Sd.mk (below_step (by repeat (first | (with_reducible first | exact HB.out | apply bal | apply pbd | apply bd1 | refine bst ?_ GE272.out | refine bst ?_ GE273.out | refine bst ?_ GE274.out) | exact HB.out)) hb); clear BK272; clear BK273; clear BK274; clear HB; have BK272 := n0_; have BK273 := n1_; have BK274 := n2_; have HB := n3_; clear n0_ n1_ n2_ n3_; (try clear hb); (try clear hb2); (try clear hk); (try clear hi); have hnb55 := NB273_274.out; have hnc55 := NB274_273.out; have hcz56_0 : w54.cell? ⟨gb273, 0, none⟩ = some (.int .i64 a1_0) := (blk_cell BK273.out 0).trans rfl; have hcz56_1 : w54.cell? ⟨gb273, 1, none⟩ = some (.int .i64 a1_1) := (blk_cell BK273.out 1).trans rfl; have hfz56_0 := blk_frozen BK273.out 0; have hfz56_1 := blk_frozen BK273.out 1) | ((with_reducible refine gate_callee (f := 48) rfl ?_); refine goesL_ (some 24) rfl rfl Tryz.func48 (by kernel_rfl) rfl #[.agg #[.int .i64 a1_0, .int .i64 a1_1]] rfl (by (try simp only [List.map_toArray, List.map_cons, List.map_nil]); first | done | rfl | (simp only [List.length_drop, List.length_take]; rfl)) ?_; (with_reducible refine (r8_num.calls a1_0 a1_1 false _ A39.out).mono ?_); rintro e w57 ⟨rfl, hb⟩; refine ⟨_, rfl, ?_⟩; have n0_ := Sd.mk (blk_below (g := gb272) (o := .cells #[.int .i64 a0_0, .int .i64 a0_1] 25 (0, 0)) (by exact blkF BK272.out) hb); have n1_ := Sd.mk (blk_below (g := gb273) (o := .cells #[.int .i64 a1_0, .int .i64 a1_1] 25 (0, 0)) (by exact blkF BK273.out) hb); have n2_ := Sd.mk (blk_below (g := gb274) (o := .cells #[.int .i64 0, .int .i64 0] 25 (0, 0)) (by exact blkF BK274.out) hb); have n3_ := Sd.mk (below_step (by repeat (first | (with_reducible first | exact HB.out | apply bal | apply pbd | apply bd1 | refine bst ?_ GE272.out | refine bst ?_ GE273.out | refine bst ?_ GE274.out) | exact HB.out)) hb); clear BK272; clear BK273; clear BK274; clear HB; have BK272 := n0_; have BK273 := n1_; have BK274 := n2_; have HB := n3_; clear n0_ n1_ n2_ n3_; (try clear hb); (try clear hb2); (try clear hk); (try clear hi); have hcz58_0 : w57.cell? ⟨gb272, 0, none⟩ = some (.int .i64 a0_0) := (blk_cell BK272.out 0).trans rfl; have hcz58_1 : w57.cell? ⟨gb272, 1, none⟩ = some (.int .i64 a0_1) := (blk_cell BK272.out 1).trans rfl; have hfz58_0 := blk_frozen BK272.out 0; have hfz58_1 := blk_frozen BK272.out 1; have hcz59_0 : w57.cell? ⟨gb273, 0, none⟩ = some (.int .i64 a1_0) := (blk_cell BK273.out 0).trans rfl; have hcz59_1 : w57.cell? ⟨gb273, 1, none⟩ = some (.int .i64 a1_1) := (blk_cell BK273.out 1).trans rfl; have hfz59_0 := blk_frozen BK273.out 0; have hfz59_1 := blk_frozen BK273.out 1; have hcz60_0 : w57.cell? ⟨gb274, 0, none⟩ = some (.int .i64 0) := (blk_cell BK274.out 0).trans rfl; have hcz60_1 : w57.cell? ⟨gb274, 1, none⟩ = some (.int .i64 0) := (blk_cell BK274.out 1).trans rfl; have hfz60_0 := blk_frozen BK274.out 0; have hfz60_1 := blk_frozen BK274.out 1))
       refine bodyPost_ret (results_cell_row rfl _ _ gb274 25 #[.int .i64 a0_0, .int .i64 a0_1] (0, 0) _ rfl (by (with_reducible repeat (first | refine blk_drewN ?_ _ | refine blk_drew ?_ | refine blk_alloc ?_ _)); refine blk_put (cs := #[.int .i64 a0_0, .int .i64 0]) ?_ 1 _ rfl; (with_reducible repeat (first | refine blk_drewN ?_ _ | refine blk_drew ?_ | refine blk_alloc ?_ _)); refine blk_put (cs := #[.int .i64 0, .int .i64 0]) ?_ 0 _ rfl; (with_reducible repeat (first | refine blk_drewN ?_ _ | refine blk_drew ?_ | refine blk_alloc ?_ _)); exact BK274.out) Tryz.underlying25 rfl (by kernel_rfl)) rfl ?_
       exact ⟨by first | rfl | (simp [errW_none, errW_some] <;> rfl) | (simp [*, errW_none, errW_some] <;> rfl), by repeat (first | (with_reducible first | exact HB.out | apply bal | apply pbd | apply bd1 | refine bst ?_ GE272.out | refine bst ?_ GE273.out | refine bst ?_ GE274.out) | exact HB.out)⟩
      ·rw [if_neg c50] at H
       have c50b0 : (a0_0 == a1_0 && (a0_1 == a1_1)) = false := by simpa using c50
       (try (have c50b1 : decide (a0_0 = a1_0 && (a0_1 == a1_1)) = false := by simpa using c50))
       (try (have c50b2 : (a0_0 == a1_0 && (a0_1 == a1_1)) = false := by simpa using c50))
       (try (have c50b3 : ¬ (a0_0 = a1_0 && (a0_1 == a1_1)) := by simpa using c50))
       clear c50
       replace H := Option.bind_eq_some_iff.mp H
       obtain ⟨⟨t281, t282⟩, A610, H⟩ := H
       replace H : (some (t281, t282)) = some (r1, r2) := H
       have A61 := Sd.mk A610
       clear A610
       simp only [Option.some.injEq, Prod.mk.injEq] at H
       obtain ⟨rfl, rfl⟩ := H
       have hnb62 := NB272_273.out
       have hnc62 := NB273_272.out
       have hnb63 := NB272_274.out
       have hnc63 := NB274_272.out
       have hcz64_0 : wc.cell? ⟨gb272, 0, none⟩ = some (.int .i64 a0_0) := (blk_cell BK272.out 0).trans rfl
       have hcz64_1 : wc.cell? ⟨gb272, 1, none⟩ = some (.int .i64 a0_1) := (blk_cell BK272.out 1).trans rfl
       have hfz64_0 := blk_frozen BK272.out 0
       have hfz64_1 := blk_frozen BK272.out 1
       go_wp2_with (first | ((with_reducible refine gate_callee (f := 48) rfl ?_); refine goesL_ (some 20) rfl rfl Tryz.func48 (by kernel_rfl) rfl #[.agg #[.int .i64 a0_0, .int .i64 a0_1]] rfl (by (try simp only [List.map_toArray, List.map_cons, List.map_nil]); first | done | rfl | (simp only [List.length_drop, List.length_take]; rfl)) ?_; (with_reducible refine (r8_num.calls a0_0 a0_1 false _ A30.out).mono ?_); rintro e w65 ⟨rfl, hb⟩; refine ⟨_, rfl, ?_⟩; have n0_ := Sd.mk (blk_below (g := gb272) (o := .cells #[.int .i64 a0_0, .int .i64 a0_1] 25 (0, 0)) (by exact blkF BK272.out) hb); have n1_ := Sd.mk (blk_below (g := gb273) (o := .cells #[.int .i64 a1_0, .int .i64 a1_1] 25 (0, 0)) (by exact blkF BK273.out) hb); have n2_ := Sd.mk (blk_below (g := gb274) (o := .cells #[.int .i64 0, .int .i64 0] 25 (0, 0)) (by exact blkF BK274.out) hb); have n3_ := Sd.mk (below_step (by repeat (first | (with_reducible first | exact HB.out | apply bal | apply pbd | apply bd1 | refine bst ?_ GE272.out | refine bst ?_ GE273.out | refine bst ?_ GE274.out) | exact HB.out)) hb); clear BK272; clear BK273; clear BK274; clear HB; have BK272 := n0_; have BK273 := n1_; have BK274 := n2_; have HB := n3_; clear n0_ n1_ n2_ n3_; (try clear hb); (try clear hb2); (try clear hk); (try clear hi); have hnb66 := NB273_274.out; have hnc66 := NB274_273.out; have hcz67_0 : w65.cell? ⟨gb273, 0, none⟩ = some (.int .i64 a1_0) := (blk_cell BK273.out 0).trans rfl; have hcz67_1 : w65.cell? ⟨gb273, 1, none⟩ = some (.int .i64 a1_1) := (blk_cell BK273.out 1).trans rfl; have hfz67_0 := blk_frozen BK273.out 0; have hfz67_1 := blk_frozen BK273.out 1) | ((with_reducible refine gate_callee (f := 48) rfl ?_); refine goesL_ (some 24) rfl rfl Tryz.func48 (by kernel_rfl) rfl #[.agg #[.int .i64 a1_0, .int .i64 a1_1]] rfl (by (try simp only [List.map_toArray, List.map_cons, List.map_nil]); first | done | rfl | (simp only [List.length_drop, List.length_take]; rfl)) ?_; (with_reducible refine (r8_num.calls a1_0 a1_1 false _ A39.out).mono ?_); rintro e w68 ⟨rfl, hb⟩; refine ⟨_, rfl, ?_⟩; have n0_ := Sd.mk (blk_below (g := gb272) (o := .cells #[.int .i64 a0_0, .int .i64 a0_1] 25 (0, 0)) (by exact blkF BK272.out) hb); have n1_ := Sd.mk (blk_below (g := gb273) (o := .cells #[.int .i64 a1_0, .int .i64 a1_1] 25 (0, 0)) (by exact blkF BK273.out) hb); have n2_ := Sd.mk (blk_below (g := gb274) (o := .cells #[.int .i64 0, .int .i64 0] 25 (0, 0)) (by exact blkF BK274.out) hb); have n3_ := Sd.mk (below_step (by repeat (first | (with_reducible first | exact HB.out | apply bal | apply pbd | apply bd1 | refine bst ?_ GE272.out | refine bst ?_ GE273.out | refine bst ?_ GE274.out) | exact HB.out)) hb); clear BK272; clear BK273; clear BK274; clear HB; have BK272 := n0_; have BK273 := n1_; have BK274 := n2_; have HB := n3_; clear n0_ n1_ n2_ n3_; (try clear hb); (try clear hb2); (try clear hk); (try clear hi); have hcz69_0 : w68.cell? ⟨gb272, 0, none⟩ = some (.int .i64 a0_0) := (blk_cell BK272.out 0).trans rfl; have hcz69_1 : w68.cell? ⟨gb272, 1, none⟩ = some (.int .i64 a0_1) := (blk_cell BK272.out 1).trans rfl; have hfz69_0 := blk_frozen BK272.out 0; have hfz69_1 := blk_frozen BK272.out 1; have hcz70_0 : w68.cell? ⟨gb273, 0, none⟩ = some (.int .i64 a1_0) := (blk_cell BK273.out 0).trans rfl; have hcz70_1 : w68.cell? ⟨gb273, 1, none⟩ = some (.int .i64 a1_1) := (blk_cell BK273.out 1).trans rfl; have hfz70_0 := blk_frozen BK273.out 0; have hfz70_1 := blk_frozen BK273.out 1) | ((with_reducible refine gate_callee (f := 26) rfl ?_); refine goesL_ (some 31) rfl rfl Tryz.func26 (by kernel_rfl) rfl #[] rfl (by (try simp only [List.map_toArray, List.map_cons, List.map_nil]); first | done | rfl | (simp only [List.length_drop, List.length_take]; rfl)) ?_; (with_reducible refine (r8_NaN.calls  t281 t282 _ A61.out).mono ?_); rintro e w71 ⟨rfl, hb⟩; refine ⟨_, rfl, ?_⟩; have n0_ := Sd.mk (blk_below (g := gb272) (o := .cells #[.int .i64 a0_0, .int .i64 a0_1] 25 (0, 0)) (by exact blkF BK272.out) hb); have n1_ := Sd.mk (blk_below (g := gb273) (o := .cells #[.int .i64 a1_0, .int .i64 a1_1] 25 (0, 0)) (by exact blkF BK273.out) hb); have n2_ := Sd.mk (blk_below (g := gb274) (o := .cells #[.int .i64 0, .int .i64 0] 25 (0, 0)) (by exact blkF BK274.out) hb); have n3_ := Sd.mk (below_step (by repeat (first | (with_reducible first | exact HB.out | apply bal | apply pbd | apply bd1 | refine bst ?_ GE272.out | refine bst ?_ GE273.out | refine bst ?_ GE274.out) | exact HB.out)) hb); clear BK272; clear BK273; clear BK274; clear HB; have BK272 := n0_; have BK273 := n1_; have BK274 := n2_; have HB := n3_; clear n0_ n1_ n2_ n3_; (try clear hb); (try clear hb2); (try clear hk); (try clear hi); have hcz72_0 : w71.cell? ⟨gb274, 0, none⟩ = some (.int .i64 0) := (blk_cell BK274.out 0).trans rfl; have hcz72_1 : w71.cell? ⟨gb274, 1, none⟩ = some (.int .i64 0) := (blk_cell BK274.out 1).trans rfl; have hfz72_0 := blk_frozen BK274.out 0; have hfz72_1 := blk_frozen BK274.out 1))
       refine bodyPost_ret (results_cell_row rfl _ _ gb274 25 #[.int .i64 t281, .int .i64 t282] (0, 0) _ rfl (by (with_reducible repeat (first | refine blk_drewN ?_ _ | refine blk_drew ?_ | refine blk_alloc ?_ _)); refine blk_put (cs := #[.int .i64 t281, .int .i64 0]) ?_ 1 _ rfl; (with_reducible repeat (first | refine blk_drewN ?_ _ | refine blk_drew ?_ | refine blk_alloc ?_ _)); refine blk_put (cs := #[.int .i64 0, .int .i64 0]) ?_ 0 _ rfl; (with_reducible repeat (first | refine blk_drewN ?_ _ | refine blk_drew ?_ | refine blk_alloc ?_ _)); exact BK274.out) Tryz.underlying25 rfl (by kernel_rfl)) rfl ?_
       exact ⟨by first | rfl | (simp [errW_none, errW_some] <;> rfl) | (simp [*, errW_none, errW_some] <;> rfl), by repeat (first | (with_reducible first | exact HB.out | apply bal | apply pbd | apply bd1 | refine bst ?_ GE272.out | refine bst ?_ GE273.out | refine bst ?_ GE274.out) | exact HB.out)⟩
def r8_beyond.f (a0 : Int) : Option (Int × Int) := if a0 > 0 then ((r8_Plus.f).bind fun bt284 => (some (bt284.1, bt284.2))) else (if a0 < 0 then ((r8_Minus.f).bind fun bt286 => (some (bt286.1, bt286.2))) else ((r8_NaN.f).bind fun bt288 => (some (bt288.1, bt288.2))))
set_option maxHeartbeats 8000000 in
set_option maxRecDepth 100000 in
theorem r8_beyond.calls (a0 : Int) (r1 : Int) (r2 : Int) (w : World) (h : r8_beyond.f a0 = some (r1, r2)) :
  Calls Tryz.prog 106 #[.int .i64 a0] w fun e w' => e = .returned (.agg #[.int .i64 r1, .int .i64 r2]) ∧ Below w.heap.size w w' := by
 have hu25 := Tryz.underlying25
 have HB := Sd.mk (Below.refl w.heap.size w)
 have H : (if a0 > 0 then ((r8_Plus.f).bind fun bt284 => (some (bt284.1, bt284.2))) else (if a0 < 0 then ((r8_Minus.f).bind fun bt286 => (some (bt286.1, bt286.2))) else ((r8_NaN.f).bind fun bt288 => (some (bt288.1, bt288.2))))) = some (r1, r2) := h
 clear h
 by_cases c2 : a0 > 0
 ·rw [if_pos c2] at H
  have c2b0 : decide (0 < a0) = true := decide_eq_true c2
  clear c2
  replace H := Option.bind_eq_some_iff.mp H
  obtain ⟨⟨t284, t285⟩, A30, H⟩ := H
  replace H : (some (t284, t285)) = some (r1, r2) := H
  have A3 := Sd.mk A30
  clear A30
  simp only [Option.some.injEq, Prod.mk.injEq] at H
  obtain ⟨rfl, rfl⟩ := H
  go_enter Tryz.func106, Tryz.ntmps106
  go_wp2_with (first | ((with_reducible refine gate_dst (N := 2) rfl ?_); refine box_event ?hg (N := 2) ?hd (cs := #[.int .i64 0, .int .i64 0]) (t := 25) ?hr ?_; (case hd => rfl); (case hg => rfl); (case hr => first | (go_simp; done) | (go_simp; rfl)); intro gb283 hg w4 hbox hb; have n0_ := Sd.mk (below_step (by exact blwF HB.out) hb); have n1_ := Sd.mk (hbox); have n2_ := Sd.mk ((by rw [hg]; exact (below_size (by exact blwF HB.out)) : w.heap.size ≤ gb283)); have n3_ := Sd.mk ((by rw [hg]; exact (below_size (by exact blwF HB.out)) : w.heap.size ≤ gb283)); clear HB; have HB := n0_; have BK283 := n1_; have GW283 := n2_; have GE283 := n3_; clear n0_ n1_ n2_ n3_; clear hb hbox hg) | ((with_reducible refine gate_callee (f := 28) rfl ?_); refine goesL_ (some 6) rfl rfl Tryz.func28 (by kernel_rfl) rfl #[] rfl (by (try simp only [List.map_toArray, List.map_cons, List.map_nil]); first | done | rfl | (simp only [List.length_drop, List.length_take]; rfl)) ?_; (with_reducible refine (r8_Plus.calls  t284 t285 _ A3.out).mono ?_); rintro e w5 ⟨rfl, hb⟩; refine ⟨_, rfl, ?_⟩; have n0_ := Sd.mk (blk_below (g := gb283) (o := .cells #[.int .i64 0, .int .i64 0] 25 (0, 0)) (by exact blkF BK283.out) hb); have n1_ := Sd.mk (below_step (by repeat (first | (with_reducible first | exact HB.out | apply bal | apply pbd | apply bd1 | refine bst ?_ GE283.out) | exact HB.out)) hb); clear BK283; clear HB; have BK283 := n0_; have HB := n1_; clear n0_ n1_; (try clear hb); (try clear hb2); (try clear hk); (try clear hi); have hcz6_0 : w5.cell? ⟨gb283, 0, none⟩ = some (.int .i64 0) := (blk_cell BK283.out 0).trans rfl; have hcz6_1 : w5.cell? ⟨gb283, 1, none⟩ = some (.int .i64 0) := (blk_cell BK283.out 1).trans rfl; have hfz6_0 := blk_frozen BK283.out 0; have hfz6_1 := blk_frozen BK283.out 1))
  refine bodyPost_ret (results_cell_row rfl _ _ gb283 25 #[.int .i64 t284, .int .i64 t285] (0, 0) _ rfl (by (with_reducible repeat (first | refine blk_drewN ?_ _ | refine blk_drew ?_ | refine blk_alloc ?_ _)); refine blk_put (cs := #[.int .i64 t284, .int .i64 0]) ?_ 1 _ rfl; (with_reducible repeat (first | refine blk_drewN ?_ _ | refine blk_drew ?_ | refine blk_alloc ?_ _)); refine blk_put (cs := #[.int .i64 0, .int .i64 0]) ?_ 0 _ rfl; (with_reducible repeat (first | refine blk_drewN ?_ _ | refine blk_drew ?_ | refine blk_alloc ?_ _)); exact BK283.out) Tryz.underlying25 rfl (by kernel_rfl)) rfl ?_
  exact ⟨by first | rfl | (simp [errW_none, errW_some] <;> rfl) | (simp [*, errW_none, errW_some] <;> rfl), by repeat (first | (with_reducible first | exact HB.out | apply bal | apply pbd | apply bd1 | refine bst ?_ GE283.out) | exact HB.out)⟩
 ·rw [if_neg c2] at H
  have c2b0 : decide (0 < a0) = false := decide_eq_false c2
  clear c2
  by_cases c7 : a0 < 0
  ·rw [if_pos c7] at H
   have c7b0 : decide (a0 < 0) = true := decide_eq_true c7
   clear c7
   replace H := Option.bind_eq_some_iff.mp H
   obtain ⟨⟨t286, t287⟩, A80, H⟩ := H
   replace H : (some (t286, t287)) = some (r1, r2) := H
   have A8 := Sd.mk A80
   clear A80
   simp only [Option.some.injEq, Prod.mk.injEq] at H
   obtain ⟨rfl, rfl⟩ := H
   go_enter Tryz.func106, Tryz.ntmps106
   go_wp2_with (first | ((with_reducible refine gate_dst (N := 2) rfl ?_); refine box_event ?hg (N := 2) ?hd (cs := #[.int .i64 0, .int .i64 0]) (t := 25) ?hr ?_; (case hd => rfl); (case hg => rfl); (case hr => first | (go_simp; done) | (go_simp; rfl)); intro gb283 hg w9 hbox hb; have n0_ := Sd.mk (below_step (by exact blwF HB.out) hb); have n1_ := Sd.mk (hbox); have n2_ := Sd.mk ((by rw [hg]; exact (below_size (by exact blwF HB.out)) : w.heap.size ≤ gb283)); have n3_ := Sd.mk ((by rw [hg]; exact (below_size (by exact blwF HB.out)) : w.heap.size ≤ gb283)); clear HB; have HB := n0_; have BK283 := n1_; have GW283 := n2_; have GE283 := n3_; clear n0_ n1_ n2_ n3_; clear hb hbox hg) | ((with_reducible refine gate_callee (f := 30) rfl ?_); refine goesL_ (some 10) rfl rfl Tryz.func30 (by kernel_rfl) rfl #[] rfl (by (try simp only [List.map_toArray, List.map_cons, List.map_nil]); first | done | rfl | (simp only [List.length_drop, List.length_take]; rfl)) ?_; (with_reducible refine (r8_Minus.calls  t286 t287 _ A8.out).mono ?_); rintro e w10 ⟨rfl, hb⟩; refine ⟨_, rfl, ?_⟩; have n0_ := Sd.mk (blk_below (g := gb283) (o := .cells #[.int .i64 0, .int .i64 0] 25 (0, 0)) (by exact blkF BK283.out) hb); have n1_ := Sd.mk (below_step (by repeat (first | (with_reducible first | exact HB.out | apply bal | apply pbd | apply bd1 | refine bst ?_ GE283.out) | exact HB.out)) hb); clear BK283; clear HB; have BK283 := n0_; have HB := n1_; clear n0_ n1_; (try clear hb); (try clear hb2); (try clear hk); (try clear hi); have hcz11_0 : w10.cell? ⟨gb283, 0, none⟩ = some (.int .i64 0) := (blk_cell BK283.out 0).trans rfl; have hcz11_1 : w10.cell? ⟨gb283, 1, none⟩ = some (.int .i64 0) := (blk_cell BK283.out 1).trans rfl; have hfz11_0 := blk_frozen BK283.out 0; have hfz11_1 := blk_frozen BK283.out 1))
   refine bodyPost_ret (results_cell_row rfl _ _ gb283 25 #[.int .i64 t286, .int .i64 t287] (0, 0) _ rfl (by (with_reducible repeat (first | refine blk_drewN ?_ _ | refine blk_drew ?_ | refine blk_alloc ?_ _)); refine blk_put (cs := #[.int .i64 t286, .int .i64 0]) ?_ 1 _ rfl; (with_reducible repeat (first | refine blk_drewN ?_ _ | refine blk_drew ?_ | refine blk_alloc ?_ _)); refine blk_put (cs := #[.int .i64 0, .int .i64 0]) ?_ 0 _ rfl; (with_reducible repeat (first | refine blk_drewN ?_ _ | refine blk_drew ?_ | refine blk_alloc ?_ _)); exact BK283.out) Tryz.underlying25 rfl (by kernel_rfl)) rfl ?_
   exact ⟨by first | rfl | (simp [errW_none, errW_some] <;> rfl) | (simp [*, errW_none, errW_some] <;> rfl), by repeat (first | (with_reducible first | exact HB.out | apply bal | apply pbd | apply bd1 | refine bst ?_ GE283.out) | exact HB.out)⟩
  ·rw [if_neg c7] at H
   have c7b0 : decide (a0 < 0) = false := decide_eq_false c7
   clear c7
   replace H := Option.bind_eq_some_iff.mp H
   obtain ⟨⟨t288, t289⟩, A120, H⟩ := H
   replace H : (some (t288, t289)) = some (r1, r2) := H
   have A12 := Sd.mk A120
   clear A120
   simp only [Option.some.injEq, Prod.mk.injEq] at H
   obtain ⟨rfl, rfl⟩ := H
   go_enter Tryz.func106, Tryz.ntmps106
   go_wp2_with (first | ((with_reducible refine gate_dst (N := 2) rfl ?_); refine box_event ?hg (N := 2) ?hd (cs := #[.int .i64 0, .int .i64 0]) (t := 25) ?hr ?_; (case hd => rfl); (case hg => rfl); (case hr => first | (go_simp; done) | (go_simp; rfl)); intro gb283 hg w13 hbox hb; have n0_ := Sd.mk (below_step (by exact blwF HB.out) hb); have n1_ := Sd.mk (hbox); have n2_ := Sd.mk ((by rw [hg]; exact (below_size (by exact blwF HB.out)) : w.heap.size ≤ gb283)); have n3_ := Sd.mk ((by rw [hg]; exact (below_size (by exact blwF HB.out)) : w.heap.size ≤ gb283)); clear HB; have HB := n0_; have BK283 := n1_; have GW283 := n2_; have GE283 := n3_; clear n0_ n1_ n2_ n3_; clear hb hbox hg) | ((with_reducible refine gate_callee (f := 26) rfl ?_); refine goesL_ (some 11) rfl rfl Tryz.func26 (by kernel_rfl) rfl #[] rfl (by (try simp only [List.map_toArray, List.map_cons, List.map_nil]); first | done | rfl | (simp only [List.length_drop, List.length_take]; rfl)) ?_; (with_reducible refine (r8_NaN.calls  t288 t289 _ A12.out).mono ?_); rintro e w14 ⟨rfl, hb⟩; refine ⟨_, rfl, ?_⟩; have n0_ := Sd.mk (blk_below (g := gb283) (o := .cells #[.int .i64 0, .int .i64 0] 25 (0, 0)) (by exact blkF BK283.out) hb); have n1_ := Sd.mk (below_step (by repeat (first | (with_reducible first | exact HB.out | apply bal | apply pbd | apply bd1 | refine bst ?_ GE283.out) | exact HB.out)) hb); clear BK283; clear HB; have BK283 := n0_; have HB := n1_; clear n0_ n1_; (try clear hb); (try clear hb2); (try clear hk); (try clear hi); have hcz15_0 : w14.cell? ⟨gb283, 0, none⟩ = some (.int .i64 0) := (blk_cell BK283.out 0).trans rfl; have hcz15_1 : w14.cell? ⟨gb283, 1, none⟩ = some (.int .i64 0) := (blk_cell BK283.out 1).trans rfl; have hfz15_0 := blk_frozen BK283.out 0; have hfz15_1 := blk_frozen BK283.out 1))
   refine bodyPost_ret (results_cell_row rfl _ _ gb283 25 #[.int .i64 t288, .int .i64 t289] (0, 0) _ rfl (by (with_reducible repeat (first | refine blk_drewN ?_ _ | refine blk_drew ?_ | refine blk_alloc ?_ _)); refine blk_put (cs := #[.int .i64 t288, .int .i64 0]) ?_ 1 _ rfl; (with_reducible repeat (first | refine blk_drewN ?_ _ | refine blk_drew ?_ | refine blk_alloc ?_ _)); refine blk_put (cs := #[.int .i64 0, .int .i64 0]) ?_ 0 _ rfl; (with_reducible repeat (first | refine blk_drewN ?_ _ | refine blk_drew ?_ | refine blk_alloc ?_ _)); exact BK283.out) Tryz.underlying25 rfl (by kernel_rfl)) rfl ?_
   exact ⟨by first | rfl | (simp [errW_none, errW_some] <;> rfl) | (simp [*, errW_none, errW_some] <;> rfl), by repeat (first | (with_reducible first | exact HB.out | apply bal | apply pbd | apply bd1 | refine bst ?_ GE283.out) | exact HB.out)⟩
def r8_size.f (a0 : Int) : Option (Int) := if a0 < 0 then (some (wrap64 (-a0))) else (some a0)
set_option maxHeartbeats 8000000 in
set_option maxRecDepth 100000 in
theorem r8_size.calls (a0 : Int) (r : Int) (w : World) (h : r8_size.f a0 = some r) :
  Calls Tryz.prog 107 #[.int .i64 a0] w fun e w' => e = .returned (.int .i64 r) ∧ Drawn0 w w' := by
 have H : (if a0 < 0 then (some (wrap64 (-a0))) else (some a0)) = some r := h
 clear h
 by_cases c2 : a0 < 0
 ·rw [if_pos c2] at H
  have c2b0 : decide (a0 < 0) = true := decide_eq_true c2
  clear c2
  obtain rfl := Option.some.inj H
  go_enter Tryz.func107, Tryz.ntmps107
  go_wp2
  go_ret
  exact ⟨by first | rfl | (simp; done) | (simp [*]; done), by repeat (first | exact Drawn0.refl _ | apply Drawn0.step)⟩
 ·rw [if_neg c2] at H
  have c2b0 : decide (a0 < 0) = false := decide_eq_false c2
  clear c2
  obtain rfl := Option.some.inj H
  go_enter Tryz.func107, Tryz.ntmps107
  go_wp2
  go_ret
  exact ⟨by first | rfl | (simp; done) | (simp [*]; done), by repeat (first | exact Drawn0.refl _ | apply Drawn0.step)⟩
end Go.Proofs.YtcmiehddjgfjaaaGreatDoor.A
