/- A part of the proof of LawSeriesScalar: contracts and plain laws, put together by a program of this session. -/
import Derived.Test.YtcmiehddjgfjaaaGreatCSca2
import Derived.Test.YtcmiehddjgfjaaaGreatProg
import Derived.Below
import Derived.Deep.Draws
import Derived.Deep.AppendLies
import Derived.Maps.AppendAt
import Derived.OwnWalk
import Derived.Laws.BytesArg
import Derived.Laws.MakeOwn
import Derived.Laws.OwnMore
import Derived.Deep.OwnRows
import Derived.Tactics
import Derived.Lib.ConvBytes
import Derived.Laws.Slices
import Derived.WalkKit
import Derived.KernelRfl
import Derived.RowKit3
import Derived.Deep.LoopGhost
import Derived.Deep.QuietTactic
import Derived.BigQuiet
import Derived.WideLaws
import Derived.Deep.DeepCutAuto
import Derived.Deep.CutBlock
import Derived.Deep.RegionHeld3
import Derived.Laws.Rows
import Derived.Lib.AppendStr
import Derived.ArgAppend
import Derived.Laws.IdiomCopy
import Derived.OrdersHeld
import Derived.Laws.BitsLemmas
import Derived.RowKit
import Derived.Lib.SlBuf
import Derived.Deep.RegionLaw
import Derived.RangeFuncNested
import Derived.RangeFuncBound
import Derived.RangeFuncCalls
import Derived.RangeFuncLeaves
import Derived.RangeFuncBox
import Derived.Shelf.Abstract
import Derived.Shelf.RegionOpen
import Derived.OwnWalkIn
import Derived.TacticsInMore
import Derived.LoopNIn
import Derived.LoopIn
import Derived.Shelf.SlSortCmp.ReverseRangeK
import Derived.Deep.Cut
import Derived.Shelf.Small.Strs
set_option linter.unusedVariables false
set_option linter.unusedSimpArgs false
set_option linter.unusedSectionVars false
set_option maxHeartbeats 8000000
set_option maxRecDepth 100000
namespace Go.Proofs.YtcmiehddjgfjaaaGreat.A
open Go.RowKit Go.Proofs.YtcmiehddjgfjaaaGreatW.PrintWords Go.Proofs.YtcmiehddjgfjaaaGreatW.PrintLast Go.Proofs.YtcmiehddjgfjaaaGreatW.PrintMore Go.Proofs.YtcmiehddjgfjaaaGreat.St Go.Proofs.YtcmiehddjgfjaaaGreat.Stable
def valP (x : Pt) : V := (x.f1.f0, x.f1.f1)
/-- An operation of two values. -/
def do2 (op : ByteArray) (a b : V) : V := (vDo op [a, b]).1
def totalGo (v : V) (l : List Pt) : V := l.foldl (fun v p => do2 ⟨#[43]⟩ v (valP p)) v
theorem totalGo_take (v : V) (l : List Pt) (i : Nat) (hi : i < l.length) : totalGo v (l.take (i + 1)) = do2 ⟨#[43]⟩ (totalGo v (l.take i)) (valP l[i]) := by
 unfold totalGo
 rw [List.take_add_one, List.getElem?_eq_getElem hi, List.foldl_append]
 rfl
theorem blk_old2 {w : World} {g : Nat} {o : Obj} (h : w.heap[g]? = some o) (o' : Obj) : (w.alloc o').heap[g]? = some o := (Below.heap_alloc w o' g (Array.getElem?_eq_some_iff.1 h).1).trans h
/-- A value's block, written over. -/
theorem set_val {W : World} {g : Nat} {a b x y : Value} {t : TypeId} (h : W.heap[g]? = some (.cells #[a, b] t (0, 0))) : ((W.setCell ⟨g, 0, none⟩ x).setCell ⟨g, 1, none⟩ y).heap[g]? = some (.cells #[x, y] t (0, 0)) := by
 have h1 : ∀ {W : World} {o : Nat} {cs : Array Value} {x : Value}, W.heap[g]? = some (.cells cs t (0, 0)) → (W.setCell ⟨g, o, none⟩ x).heap[g]? = some (.cells (cs.setIfInBounds o x) t (0, 0)) := fun {W o cs x} h => by
  rw [setCell_eq_setRow W g o cs t (0, 0) x h]
  exact setRow_heap W g cs _ t (0, 0) h
 exact h1 (h1 h)
theorem keep_val {W : World} {g h : Nat} {x y : Value} {o : Obj} (hh : W.heap[h]? = some o) (hne : h ≠ g) : ((W.setCell ⟨g, 0, none⟩ x).setCell ⟨g, 1, none⟩ y).heap[h]? = some o := by
 rw [Below.heap_setCell _ _ _ _ hne, Below.heap_setCell _ _ _ _ hne]; exact hh
theorem total_calls (A : Option Addr) (c : Nat) (x : Pt) (l' : List Pt) (w : World) (hr : Kd.C k39 w A (x :: l').length (x :: l')) (hc : (x :: l').length ≤ c) :
  Calls Tryz.prog 44 #[.slice A (x :: l').length c] w fun e w' => e = .returned (.agg #[.int .i64 (totalGo (valP x) l').1, .int .i64 (totalGo (valP x) l').2]) ∧ Below w.heap.size w w' := by
 have hmx : (x :: l').length ≤ 9223372036854775807 := Kd.C_max hr
 obtain ⟨ad, rfl, p0, p1, p2⟩ := at_T39 hr 0 (by omega) (by simp)
 have e0 : rd_T39 (x :: l') 0 = x := rfl
 rw [e0] at p0 p1 p2
 have hd := Kd.C_drop hr (m := 1) (by simp) hc
 have hlen : (x :: l').length = l'.length + 1 := rfl
 rw [hlen] at hmx hc ⊢
 have hb0 := below1 w (.cells #[.int .i64 0, .int .i64 0] 25)
 have p1 := pw_cell_below hb0 p1
 have p2 := pw_cell_below hb0 p2
 have hz : ad.add (Int.toNat 0 * 3) = ad := by unfold Addr.add; simp
 rw [hz] at p1 p2
 have X4 := Sd.mk (blk_old2 (blk_new w (.cells #[.int .i64 0, .int .i64 0] 25)) (.cells #[.int .i64 x.f1.f0, .int .i64 x.f1.f1] 25))
 have X5 := Sd.mk (blk_new (w.alloc (.cells #[.int .i64 0, .int .i64 0] 25)) (.cells #[.int .i64 x.f1.f0, .int .i64 x.f1.f1] 25))
 have HB0 := Sd.mk (bal hb0 (.cells #[.int .i64 x.f1.f0, .int .i64 x.f1.f1] 25))
 rw [World.size_alloc] at X5
 have s1 : (((l'.length + 1 : Nat) : Int) - 1) = (l'.length : Int) := by omega
 clear hr p0 e0 hb0 hz hlen
 by_cases hc1 : c = 1
 ·rw [if_pos hc1] at hd
  have HR := Sd.mk (show Kd.C k39 w (some ad) l'.length l' from hd)
  subst hc1
  have hl0 : l'.length = 0 := by omega
  have hnil : l' = [] := List.eq_nil_of_length_eq_zero hl0
  subst hnil
  clear hd hl0
  go_enter Tryz.func44, Tryz.ntmps44
  go_wp2
  go_loopw [13] (fun v13 wr => v13 = .int .i64 0 ∧ Sd (wr.heap[w.heap.size]? = some (.cells #[.int .i64 0, .int .i64 0] 25 (0, 0))) ∧ Sd (wr.heap[w.heap.size + 1]? = some (.cells #[.int .i64 x.f1.f0, .int .i64 x.f1.f1] 25 (0, 0))) ∧ Sd (Below w.heap.size w wr)) (fun v13 _ => 0)
  case atStart => exact ⟨rfl, X4, X5, HB0⟩
  case round =>
   clear X4 X5 HB0
   obtain ⟨rfl, H4, H5, HW⟩ := hrel
   have c0 := (blk_cell H5.out 0).trans rfl
   have c1 := (blk_cell H5.out 1).trans rfl
   have d0 := (blk_cell H4.out 0).trans rfl
   have d1 := (blk_cell H4.out 1).trans rfl
   have f0 := blk_frozen H4.out 0
   have f1 := blk_frozen H4.out 1
   go_wp2
   exact bodyPost_ret (v := .agg #[.int .i64 x.f1.f0, .int .i64 x.f1.f1]) (by simp [results, Tryz.results44, go_sem, d0, d1]) rfl ⟨rfl, (HW.out.setCell (by simp) _).setCell (by simp) _⟩
 ·rw [if_neg hc1] at hd
  have ha3 : ad.add 3 = ⟨ad.block, ad.off + 3, none⟩ := by unfold Addr.add; simp
  have HR := Sd.mk (show Kd.C k39 w (some ⟨ad.block, ad.off + 3, none⟩) l'.length l' by rw [← ha3]; exact hd)
  clear ha3
  have hgt : 1 < c := by omega
  have hcn : (c == 1) = false := by simpa using hc1
  clear hd hc1
  go_enter Tryz.func44, Tryz.ntmps44
  go_wp2
  go_loopw [13] (fun v13 wr => ∃ i : Nat, i ≤ l'.length ∧ v13 = .int .i64 i ∧ Sd (wr.heap[w.heap.size]? = some (.cells #[.int .i64 0, .int .i64 0] 25 (0, 0))) ∧ Sd (wr.heap[w.heap.size + 1]? = some (.cells #[.int .i64 (totalGo (valP x) (l'.take i)).1, .int .i64 (totalGo (valP x) (l'.take i)).2] 25 (0, 0))) ∧ Sd (Below w.heap.size w wr)) (fun v13 _ => l'.length - (intOf v13).toNat)
  case atStart => exact ⟨0, Nat.zero_le _, rfl, X4, X5, HB0⟩
  case round =>
   clear X4 X5 HB0
   obtain ⟨i, hi, rfl, H4, H5, HW⟩ := hrel
   by_cases hlt : i < l'.length
   ·have b1 : (i : Int) < (l'.length : Int) := by omega
    obtain ⟨ad2, e2, q0, q1, q2⟩ := at_T39 (Kd.C_below HR.out HW.out) (i : Int) (by omega) (by omega)
    injection e2 with e2
    subst e2
    rw [rdP_at hlt] at q0 q1 q2
    rw [Int.toNat_natCast, add_at] at q0 q1 q2
    have hst := totalGo_take (valP x) l' i hlt
    generalize hbv : totalGo (valP x) (l'.take i) = bv at H5 hst
    obtain ⟨v1, v2⟩ := bv
    generalize l'[i] = y at q0 q1 q2 hst
    rcases hdo : vDo ⟨#[43]⟩ [(v1, v2), (y.f1.f0, y.f1.f1)] with ⟨⟨r1, r2⟩, r3⟩
    have HST := Sd.mk (hst.trans (show do2 ⟨#[43]⟩ (v1, v2) (valP y) = (r1, r2) by unfold do2 valP; rw [hdo]))
    have hba := below1 wr (.cells #[.int .i64 y.f0, .int .i64 y.f1.f0, .int .i64 y.f1.f1] 39)
    have c0 := (blk_cell (blk_below H5.out hba) 0).trans rfl
    have c1 := (blk_cell (blk_below H5.out hba) 1).trans rfl
    have HD := Sd.mk (do2_any ⟨#[43]⟩ v1 v2 y.f1.f0 y.f1.f1 (wr.alloc (.cells #[.int .i64 y.f0, .int .i64 y.f1.f0, .int .i64 y.f1.f1] 39)) hdo)
    simp only [World.size_alloc] at HD
    have HA := Sd.mk hba
    clear hst hbv hba hdo
    go_wp2_with fail
    refine HD.out.mono ?_
    rintro e w2 ⟨rfl, hb2⟩
    have HB2 := Sd.mk (HA.out.trans (hb2.mono (Nat.le_succ _)))
    have K5 := Sd.mk (blk_below H5.out HB2.out)
    have K4 := Sd.mk (blk_below H4.out HB2.out)
    have z0 := (blk_cell K5.out 0).trans rfl
    have z1 := (blk_cell K5.out 1).trans rfl
    have f0 := blk_frozen K5.out 0
    have f1 := blk_frozen K5.out 1
    have HW2 := Sd.mk (HW.out.trans (HB2.out.mono HW.out.size))
    clear hb2 c0 c1
    go_wp2
    go_roundw
    case rel => exact ⟨i + 1, by omega, by go_num, ⟨keep_val K4.out (by omega)⟩, ⟨by rw [HST.out]; exact set_val K5.out⟩, ⟨(HW2.out.setCell (by simp) _).setCell (by simp) _⟩⟩
    case measure => simp [intOf]; omega
   ·have n1 : decide ((i : Int) < (l'.length : Int)) = false := decide_eq_false (by omega)
    have n2 : decide (i < l'.length) = false := decide_eq_false hlt
    have HE := Sd.mk (show l'.take i = l' from List.take_of_length_le (by omega))
    rw [HE.out] at H5
    generalize hbv : totalGo (valP x) l' = bv at H5
    have HBV := Sd.mk hbv
    obtain ⟨v1, v2⟩ := bv
    have c0 := (blk_cell H5.out 0).trans rfl
    have c1 := (blk_cell H5.out 1).trans rfl
    have d0 := (blk_cell H4.out 0).trans rfl
    have d1 := (blk_cell H4.out 1).trans rfl
    have f0 := blk_frozen H4.out 0
    have f1 := blk_frozen H4.out 1
    clear hbv
    go_wp2
    exact bodyPost_ret (v := .agg #[.int .i64 v1, .int .i64 v2]) (by simp [results, Tryz.results44, go_sem, d0, d1]) rfl ⟨by rw [HBV.out], (HW.out.setCell (by simp) _).setCell (by simp) _⟩
end Go.Proofs.YtcmiehddjgfjaaaGreat.A
namespace Go.Proofs.YtcmiehddjgfjaaaGreat.B
open Go.RowKit Go.Proofs.YtcmiehddjgfjaaaGreatW.PrintWords Go.Proofs.YtcmiehddjgfjaaaGreatW.PrintLast Go.Proofs.YtcmiehddjgfjaaaGreatW.PrintMore
attribute [local go_sem] max2_int min2_int max_two min_two max_three min_three max_four min_four   -- for this text's walks alone
def errW : Option Int → Value
 | none => .nilIface
 | some c => .iface 0 (.int .i64 c)
theorem errW_none : errW none = .nilIface := rfl
theorem errW_some (c : Int) : errW (some c) = .iface 0 (.int .i64 c) := rfl
def slices_Index_string_string.l0 : Nat → List ByteArray → ByteArray → Int → Int → Option (Int)
 | 0, _, _, _, _ => none
 | k + 1, x0, x1, x7, x8 => if x8 < x7 then (if 0 ≤ x8 then (if x8 < (x0.length : Int) then (if x1.toList = (rdOf ByteArray.empty x0 x8).toList then (some x8) else (slices_Index_string_string.l0 k x0 x1 x7 (wrap64 (x8 + 1)))) else (none)) else (none)) else (some (-1))
def slices_Index_string_string.f (k : Nat) (l0 : List ByteArray) (a1 : ByteArray) : Option (Int) := slices_Index_string_string.l0 k l0 a1 (l0.length : Int) 0
theorem slices_Index_string_string.mono_l : ∀ k, (∀ y0 y1 y2 y3, LeO (slices_Index_string_string.l0 k y0 y1 y2 y3) (slices_Index_string_string.l0 (k + 1) y0 y1 y2 y3))
 | 0 => fun _ _ _ _ r h => by simp [slices_Index_string_string.l0] at h
 | k + 1 => by
  have ih0 := slices_Index_string_string.mono_l k
  ·intro y0 y1 y2 y3
   unfold slices_Index_string_string.l0
   repeat' first
   | (with_reducible exact ih0 _ _ _ _)
   | (with_reducible exact LeO.refl _)
   | (with_reducible exact LeO.none _)
   | (with_reducible refine LeO.ite ?_ ?_)
   | (with_reducible refine LeO.bind ?_ (fun _ => ?_))
   | exact ih0 _ _ _ _
   | exact LeO.none _
   | refine LeO.ite ?_ ?_
   | refine LeO.bind ?_ (fun _ => ?_)
theorem slices_Index_string_string.mono : ∀ a0 a1 k, LeO (slices_Index_string_string.f k a0 a1) (slices_Index_string_string.f (k + 1) a0 a1) := by
 intro a0 a1 k
 have ih0 := slices_Index_string_string.mono_l k
 unfold slices_Index_string_string.f
 repeat' first
   | (with_reducible exact ih0 _ _ _ _)
   | (with_reducible exact LeO.refl _)
   | (with_reducible exact LeO.none _)
   | (with_reducible refine LeO.ite ?_ ?_)
   | (with_reducible refine LeO.bind ?_ (fun _ => ?_))
   | exact ih0 _ _ _ _
   | exact LeO.none _
   | refine LeO.ite ?_ ?_
   | refine LeO.bind ?_ (fun _ => ?_)
theorem slices_Index_string_string.calls (k : Nat) (A0 : Option Addr) (c0 : Nat) (l0 : List ByteArray) (a1 : ByteArray) (r : Int) (w : World) (hr0 : Kd.C Kd.string w A0 l0.length l0) (hc0 : l0.length ≤ c0) (h : slices_Index_string_string.f k l0 a1 = some r) :
  Calls Tryz.prog 71 #[.slice A0 l0.length c0, .string a1] w fun e w' => e = .returned (.int .i64 r) ∧ Drawn0 w w' := by
 have HR0 := Sd.mk hr0
 have HC0 := Sd.mk hc0
 clear hr0 hc0
 have H : (slices_Index_string_string.l0 k l0 a1 (l0.length : Int) 0) = some r := h
 clear h
 have H' := Sd.mk H
 clear H
 go_enter Tryz.func71, Tryz.ntmps71
 go_wp2
 go_loopg [8] k (fun kq v8 w' => ∃ (x8_1 : Int), v8 = .int .i64 x8_1 ∧ Sd (slices_Index_string_string.l0 kq l0 a1 (l0.length : Int) x8_1 = some r) ∧ Sd (kq ≤ k) ∧ Drawn0 w w')
 case atStart => exact ⟨(0), (by first | rfl | (simp; done) | (simp [*]; done)), H', ⟨Nat.le_refl _⟩, by repeat (first | exact Drawn0.refl _ | apply Drawn0.step)⟩
 case round =>
  clear H'
  try clear p2
  obtain ⟨x8_1, rfl, HA, HK1, ⟨m1, rfl⟩⟩ := hrel
  cases gk with
  | zero => exact absurd HA.out (by simp [slices_Index_string_string.l0])
  | succ k1 =>
   have H := HA.out
   clear HA
   simp only [slices_Index_string_string.l0] at H
   by_cases c3 : x8_1 < (l0.length : Int)
   ·rw [if_pos c3] at H
    have c3b0 : decide (x8_1 < (l0.length : Int)) = true := decide_eq_true c3
    clear c3
    by_cases c4 : 0 ≤ x8_1
    ·rw [if_pos c4] at H
     have c4b0 : decide (0 ≤ x8_1) = true := decide_eq_true c4
     clear c4
     by_cases c5 : x8_1 < (l0.length : Int)
     ·rw [if_pos c5] at H
      have c5b0 : decide (x8_1 < (l0.length : Int)) = true := decide_eq_true c5
      clear c5
      by_cases c6 : a1.toList = (rdOf ByteArray.empty l0 x8_1).toList
      ·rw [if_pos c6] at H
       have c6b0 : (a1.toList == (rdOf ByteArray.empty l0 x8_1).toList) = true := beq_iff_eq.mpr c6
       have c6b1 : (a1.toList != (rdOf ByteArray.empty l0 x8_1).toList) = false := bne_eq_false_iff_eq.mpr c6
       clear c6
       obtain rfl := Option.some.inj H
       have p101 : 0 ≤ (x8_1 : Int) := of_decide_eq_true (by first | (with_reducible assumption) | assumption)
       have q101 : x8_1 < (l0.length : Int) := of_decide_eq_true (by first | (with_reducible assumption) | assumption)
       obtain ⟨ad101, e101, hx101_0⟩ := Kd.at_string HR0.out x8_1 p101 q101
       cases e101
       replace p101 := eq_true p101
       replace q101 := eq_true q101
       go_wp2
       go_ret
       exact ⟨by first | rfl | (simp; done) | (simp [*]; done), by repeat (first | exact Drawn0.refl _ | apply Drawn0.step)⟩
      ·rw [if_neg c6] at H
       have c6b0 : (a1.toList == (rdOf ByteArray.empty l0 x8_1).toList) = false := beq_eq_false_iff_ne.mpr c6
       have c6b1 : (a1.toList != (rdOf ByteArray.empty l0 x8_1).toList) = true := bne_iff_ne.mpr c6
       have H' := Sd.mk H
       clear H
       have p101 : 0 ≤ (x8_1 : Int) := of_decide_eq_true (by first | (with_reducible assumption) | assumption)
       have q101 : x8_1 < (l0.length : Int) := of_decide_eq_true (by first | (with_reducible assumption) | assumption)
       obtain ⟨ad101, e101, hx101_0⟩ := Kd.at_string HR0.out x8_1 p101 q101
       cases e101
       replace p101 := eq_true p101
       replace q101 := eq_true q101
       go_wp2
       go_roundg k1
       case measure => have := HK1.out; omega
       case rel => exact ⟨(wrap64 (x8_1 + 1)), (by first | rfl | (simp; done) | (simp [*]; done)), H', ⟨by have := HK1.out; omega⟩, by repeat (first | exact Drawn0.refl _ | apply Drawn0.step)⟩
     ·rw [if_neg c5] at H
      exact absurd H (by simp)
    ·rw [if_neg c4] at H
     exact absurd H (by simp)
   ·rw [if_neg c3] at H
    have c3b0 : decide (x8_1 < (l0.length : Int)) = false := decide_eq_false c3
    clear c3
    obtain rfl := Option.some.inj H
    go_wp2
    go_ret
    exact ⟨by first | rfl | (simp; done) | (simp [*]; done), by repeat (first | exact Drawn0.refl _ | apply Drawn0.step)⟩
def slices_Contains_string_string.f (k : Nat) (l0 : List ByteArray) (a1 : ByteArray) : Option (Bool) := (slices_Index_string_string.f k l0 a1).bind fun t102 => (some (decide (t102 ≥ 0)))
theorem slices_Contains_string_string.mono : ∀ a0 a1 k, LeO (slices_Contains_string_string.f k a0 a1) (slices_Contains_string_string.f (k + 1) a0 a1) := by
 intro a0 a1 k
 unfold slices_Contains_string_string.f
 repeat' first
   | (with_reducible exact slices_Index_string_string.mono _ _ _)
   | (with_reducible exact LeO.refl _)
   | (with_reducible exact LeO.none _)
   | (with_reducible refine LeO.ite ?_ ?_)
   | (with_reducible refine LeO.bind ?_ (fun _ => ?_))
   | exact slices_Index_string_string.mono _ _ _
   | exact LeO.none _
   | refine LeO.ite ?_ ?_
   | refine LeO.bind ?_ (fun _ => ?_)
theorem slices_Contains_string_string.calls (k : Nat) (A0 : Option Addr) (c0 : Nat) (l0 : List ByteArray) (a1 : ByteArray) (r : Bool) (w : World) (hr0 : Kd.C Kd.string w A0 l0.length l0) (hc0 : l0.length ≤ c0) (h : slices_Contains_string_string.f k l0 a1 = some r) :
  Calls Tryz.prog 30 #[.slice A0 l0.length c0, .string a1] w fun e w' => e = .returned (.bool r) ∧ Drawn0 w w' := by
 have HR0 := Sd.mk hr0
 have HC0 := Sd.mk hc0
 clear hr0 hc0
 have H : ((slices_Index_string_string.f k l0 a1).bind fun t102 => (some (decide (t102 ≥ 0)))) = some r := h
 clear h
 replace H := Option.bind_eq_some_iff.mp H
 obtain ⟨t102, A30, H⟩ := H
 replace H : (some (decide (t102 ≥ 0))) = some r := H
 have A3 := Sd.mk A30
 clear A30
 obtain rfl := Option.some.inj H
 go_enter Tryz.func30, Tryz.ntmps30
 go_wp2_with (first | ((with_reducible refine gate_callee (f := 71) rfl ?_); refine goesL_ (some 7) rfl rfl Tryz.func71 (by kernel_rfl) rfl #[.slice A0 l0.length c0, .string a1] rfl (by (try simp only [List.map_toArray, List.map_cons, List.map_nil]); first | done | rfl | (simp only [List.length_drop, List.length_take]; rfl)) ?_; (with_reducible refine (slices_Index_string_string.calls k _ _ l0 a1 t102 _ ?side1 ?side2 A3.out).mono ?_); (case side1 => repeat (first | exact HR0.out | (with_reducible refine Kd.C_alloc ?_ _) | (with_reducible refine Kd.C_drewN ?_ _) | (with_reducible refine Kd.C_drew ?_))); (case side2 => exact HC0.out); rintro e w' ⟨rfl, ⟨nd, rfl⟩⟩; refine ⟨_, rfl, ?_⟩))
 go_ret
 exact ⟨by first | rfl | (simp; done) | (simp [*]; done), by repeat (first | exact Drawn0.refl _ | apply Drawn0.step)⟩
end Go.Proofs.YtcmiehddjgfjaaaGreat.B
namespace Go.Proofs.YtcmiehddjgfjaaaGreat.A
open Go.RowKit Go.Proofs.YtcmiehddjgfjaaaGreatW.PrintWords Go.Proofs.YtcmiehddjgfjaaaGreatW.PrintLast Go.Proofs.YtcmiehddjgfjaaaGreatW.PrintMore
/-- copy of elements of whatever size, all of them in cells. -/
theorem run_copy_k {P : Program} (w : World) (dT sT ty elem : TypeId) (b o dLen dCap : Nat) (a : Addr) (sLen sCap sz : Nat) (cs : List Value)
  (hu : P.underlying dT = some (.slice elem)) (hs : (P.info? elem).map (·.size) = some sz) (hn : cs.length = Nat.min sLen dLen * sz)
  (hsrc : ∀ j v, cs[j]? = some v → w.cell? (a.add j) = some v) (hc : ∀ j, j < cs.length → (w.cell? ⟨b, o + j, none⟩).isSome = true) (hf : ∀ j, j < cs.length → w.frozen? ⟨b, o + j, none⟩ = false) (h1 : ∀ v ∈ cs, v.oneCell' = true) :
  (Builtin.copy_ #[dT, sT] ty #[.slice (some ⟨b, o, none⟩) dLen dCap, .slice (some a) sLen sCap]).run P w = .ok (goInt (Nat.min sLen dLen)) (w.setCells b o cs) := by
 have hl := run_loadCells_list (P := P) w a cs hsrc
 have hst := run_storeCells_cells (P := P) b o cs 0 w (by simpa using hc) (by simpa using hf) h1
 cases hq : P.info? elem with
 | none => simp [hq] at hs
 | some i =>
  have hi : i.size = sz := by simpa [hq] using hs
  simp [Builtin.copy_, run_underlying hu, Builtin.lenOf, Builtin.firstCells, sizeOf, typeInfo, hq, hi, ← hn, hl, hst]
theorem mul_one (m : Int) (h0 : 0 ≤ m) (h : m ≤ 2) (w : World) : Calls Tryz.prog 150 #[.int .u64 1, .int .u64 m] w fun e w' => e = .returned (.tuple #[.int .u64 0, .int .u64 m]) ∧ Below w.heap.size w w' := by
 have hm := mul128 1 m (by omega) (by omega) h0 (by omega)
 have e1 : (1 * m) / 18446744073709551616 = 0 := by omega
 have e2 : (1 * m) % 18446744073709551616 = m := by omega
 rw [e1, e2] at hm
 have HC := Sd.mk (bits_Mul64.calls 1 m 0 m w hm)
 clear hm e1 e2
 go_enter Tryz.func150, Tryz.ntmps150
 go_wp2_with (go_at_call 163; refine HC.out.mono ?_; rintro e w1 ⟨rfl, ⟨n, rfl⟩⟩)
 go_ret2
 exact ⟨rfl, pbd (Below.refl _ _) n⟩
theorem info_size {P : Program} {e : TypeId} {z : Value} {n b : Nat} (h : (P.info? e).map (fun i => (i.zero, i.size, i.bytes)) = some (some z, n, b)) : (P.info? e).map (·.size) = some n := by
 obtain ⟨i, hi, _, h2, _⟩ := info_parts h
 rw [hi]; exact congrArg some h2
/-- A row of two values' cells, laid just now. -/
theorem row4 {W : World} {g : Nat} {a1 a2 b1 b2 : Int} (h : W.heap[g]? = some (.cells #[.int .i64 a1, .int .i64 a2, .int .i64 b1, .int .i64 b2] 25 (0, 0))) : Kd.C k25 W (some ⟨g, 0, none⟩) 2 [⟨a1, a2⟩, ⟨b1, b2⟩] := by
 refine ⟨rfl, by simp, fun _ => ⟨_, rfl, fun j p hp => ?_⟩⟩
 match j, hp with
 | 0, hp =>
  injection hp with hp
  subst hp
  exact ⟨[.int .i64 a1, .int .i64 a2], rfl, k25_mk _ _, fun i u hu => by
   match i, hu with
   | 0, hu => exact (blk_cell h 0).trans hu
   | 1, hu => exact (blk_cell h 1).trans hu
   | i + 2, hu => simp at hu⟩
 | 1, hp =>
  injection hp with hp
  subst hp
  exact ⟨[.int .i64 b1, .int .i64 b2], rfl, k25_mk _ _, fun i u hu => by
   match i, hu with
   | 0, hu => exact (blk_cell h 2).trans hu
   | 1, hu => exact (blk_cell h 3).trans hu
   | i + 2, hu => simp at hu⟩
 | j + 2, hp => simp at hp
theorem made_4 : madeCells (Value.agg #[.int .i64 0, .int .i64 0]).cells (Int.toNat 2 * 2) = #[.int .i64 0, .int .i64 0, .int .i64 0, .int .i64 0] := by kernel_rfl
theorem made4 (W : World) : (Instr.makeSlice 47 (.int .i64 2) (.int .i64 2)).run Tryz.prog W = .ok (.slice (some ⟨W.heap.size, 0, none⟩) 2 2) (W.alloc (.cells #[.int .i64 0, .int .i64 0, .int .i64 0, .int .i64 0] 25)) := by
 obtain ⟨i, hi, hz, h1, h2⟩ := info_parts info25
 have h := run_makeSlice (P := Tryz.prog) W 47 25 i _ Tryz.underlying47 hi hz .i64 .i64 2 2 (by omega) (by omega) (by rw [h1]; decide) (by rw [h2]; decide) (by omega)
 rw [h1, made_4] at h
 exact h
/-- A block's cells written over, as a block. -/
theorem set_blk {W : World} {g o : Nat} {t : TypeId} {cs : Array Value} {x : Value} (h : W.heap[g]? = some (.cells cs t (0, 0))) : (W.setCell ⟨g, o, none⟩ x).heap[g]? = some (.cells (cs.setIfInBounds o x) t (0, 0)) := by
 rw [setCell_eq_setRow W g o cs t (0, 0) x h]
 exact setRow_heap W g cs _ t (0, 0) h
theorem set2_0 {W : World} {g : Nat} {t : TypeId} {a b c d x y : Value} (h : W.heap[g]? = some (.cells #[a, b, c, d] t (0, 0))) : (W.setCells g 0 [x, y]).heap[g]? = some (.cells #[x, y, c, d] t (0, 0)) := set_blk (set_blk h)
theorem set2_1 {W : World} {g : Nat} {t : TypeId} {a b c d x y : Value} (h : W.heap[g]? = some (.cells #[a, b, c, d] t (0, 0))) : (W.setCells g 2 [x, y]).heap[g]? = some (.cells #[a, b, x, y] t (0, 0)) := set_blk (set_blk h)
theorem below_set2 {B : Nat} {w W : World} {g o : Nat} {x y : Value} (h : Below B w W) (hg : B ≤ g) : Below B w (W.setCells g o [x, y]) := (h.setCell (p := ⟨g, o, none⟩) hg x).setCell (p := ⟨g, o + 1, none⟩) hg y
/-- copy, as one step of a region that draws. -/
theorem step_copy_k {P : Program} {ops : Array Oper} {o : Oper} {a : Act} {w : World} {K : Act → World → Prop} {Q : Exit → Act → World → Prop} {E : Prop} (hg : o.guard = none) (d s : Operand) (dT sT elem : TypeId)
  (ho : o.op = .call { callee := .builtin .copy, args := #[d, s], argTypes := #[dT, sT] }) (hu : P.underlying dT = some (.slice elem)) {sz : Nat} (hsz : (P.info? elem).map (·.size) = some sz)
  (b off dLen dCap : Nat) (hd : a.eval d = .slice (some ⟨b, off, none⟩) dLen dCap) (ad : Addr) (sLen sCap : Nat) (hs : a.eval s = .slice (some ad) sLen sCap) (cs : List Value) (hn : cs.length = Nat.min sLen dLen * sz)
  (hsrc : ∀ j v, cs[j]? = some v → w.cell? (ad.add j) = some v) (hc : ∀ j, j < cs.length → (w.cell? ⟨b, off + j, none⟩).isSome = true) (hf : ∀ j, j < cs.length → w.frozen? ⟨b, off + j, none⟩ = false) (h1 : ∀ v ∈ cs, v.oneCell' = true)
  (hK : K (a.put o.dst (goInt (Nat.min sLen dLen))) (w.setCells b off cs)) :
  if Region.wanted o (yielded ops a.tmps) = true then Oper.wp P o a w K Q else E := by
 have hw : Region.wanted o (yielded ops a.tmps) = true := by simp [Region.wanted, hg]
 rw [if_pos hw]
 have hrun := run_copy_k (P := P) w dT sT o.type elem b off dLen dCap ad sLen sCap sz cs hu hsz hn hsrc hc hf h1
 unfold Oper.wp
 simp [execOp, ho, resolve, invoke, builtin, hd, hs, hrun, Result.andThen]
 exact hK
theorem repeat2_calls (b : Nat) (x y : Int) (w : World) (p0 : w.cell? ⟨b, 0, none⟩ = some (.int .i64 x)) (p1 : w.cell? ⟨b, 1, none⟩ = some (.int .i64 y)) :
  Calls Tryz.prog 101 #[.slice (some ⟨b, 0, none⟩) 1 1, .int .i64 2] w fun e w' => ∃ A, e = .returned (.slice A 2 2) ∧ Kd.C k25 w' A 2 [⟨x, y⟩, ⟨x, y⟩] ∧ Below w.heap.size w w' := by
 have HM := Sd.mk (mul_one 2 (by omega) (by omega) w)
 have hmk := made4
 go_enter Tryz.func101, Tryz.ntmps101
 go_wp2_with fail
 refine HM.out.mono ?_
 rintro e w1 ⟨rfl, hb1⟩
 replace p0 := pw_cell_below (bal hb1 (.cells #[.int .i64 0, .int .i64 0, .int .i64 0, .int .i64 0] 25)) p0
 replace p1 := pw_cell_below (bal hb1 (.cells #[.int .i64 0, .int .i64 0, .int .i64 0, .int .i64 0] 25)) p1
 have HB := Sd.mk (bal hb1 (.cells #[.int .i64 0, .int .i64 0, .int .i64 0, .int .i64 0] 25))
 have X := Sd.mk (blk_new w1 (.cells #[.int .i64 0, .int .i64 0, .int .i64 0, .int .i64 0] 25))
 have HS := Sd.mk hb1.size
 clear hb1
 have HP := Sd.mk (And.intro p0 p1)
 clear p0 p1
 obtain ⟨W2, hcp, hX2, hb2⟩ : ∃ W2, (Builtin.copy_ #[47, 47] 3 #[.slice (some ⟨w1.heap.size, 0, none⟩) 2 2, .slice (some ⟨b, 0, none⟩) 1 1]).run Tryz.prog (w1.alloc (.cells #[.int .i64 0, .int .i64 0, .int .i64 0, .int .i64 0] 25)) = .ok (goInt 1) W2 ∧ W2.heap[w1.heap.size]? = some (.cells #[.int .i64 x, .int .i64 y, .int .i64 0, .int .i64 0] 25 (0, 0)) ∧ Below w.heap.size w W2 := by
  refine ⟨_, run_copy_k _ _ _ _ 25 w1.heap.size 0 2 2 ⟨b, 0, none⟩ 1 1 2 [.int .i64 x, .int .i64 y] Tryz.underlying47 (info_size info25) rfl ?_ ?_ ?_ ?_, set2_0 X.out, below_set2 HB.out HS.out⟩
  ·intro j v hj
   rw [add_at, Nat.zero_add]
   match j, hj with
   | 0, hj => injection hj with hj; subst hj; exact HP.out.1
   | 1, hj => injection hj with hj; subst hj; exact HP.out.2
   | j + 2, hj => simp at hj
  ·intro j hj
   rw [Nat.zero_add, blk_cell X.out j]
   match j, hj with
   | 0, _ => rfl
   | 1, _ => rfl
   | j + 2, hj => exact absurd (show j + 2 < 2 from hj) (by omega)
  ·intro j hj
   exact blk_frozen X.out _
  ·intro v hv
   simp only [List.mem_cons, List.not_mem_nil, or_false] at hv
   rcases hv with rfl | rfl <;> rfl
 have HX2 := Sd.mk hX2
 have HB2 := Sd.mk hb2
 clear hX2 hb2 HP X
 go_wp2
 go_loopw [8] (fun v8 wr => (v8 = .int .i64 1 ∧ wr = W2) ∨ (v8 = .int .i64 2 ∧ wr.heap[w1.heap.size]? = some (.cells #[.int .i64 x, .int .i64 y, .int .i64 x, .int .i64 y] 25 (0, 0)) ∧ Below w.heap.size w wr)) (fun v8 _ => 2 - (intOf v8).toNat)
 case atStart => exact .inl ⟨rfl, rfl⟩
 case round =>
  rcases hrel with ⟨rfl, rfl⟩ | ⟨rfl, hx, hb⟩
  ·have HX3 := Sd.mk (fun n => blk_drewN HX2.out n)
   clear hcp hmk
   have hw2 : IntKind.i64.wrap 2 = 2 := by decide
   go_wp2_with fail
   go_region_law (refine step_copy_k rfl (.tmp 41) (.tmp 44) 47 47 25 rfl Tryz.underlying47 (info_size info25) w1.heap.size 2 1 1 (by go_simp) ⟨w1.heap.size, 0, none⟩ 1 2 (by go_simp) [.int .i64 x, .int .i64 y] rfl (fun j v hj => by
    rw [add_at, Nat.zero_add]
    match j, hj with
    | 0, hj => exact (blk_cell HX2.out 0).trans hj
    | 1, hj => exact (blk_cell HX2.out 1).trans hj
    | j + 2, hj => simp at hj) (fun j hj => by
    match j, hj with
    | 0, _ => exact (congrArg Option.isSome (blk_cell HX2.out 2)).trans rfl
    | 1, _ => exact (congrArg Option.isSome (blk_cell HX2.out 3)).trans rfl
    | j + 2, hj => exact absurd (show j + 2 < 2 from hj) (by omega)) (fun j _ => blk_frozen HX2.out _) (fun v hv => by
    simp only [List.mem_cons, List.not_mem_nil, or_false] at hv
    rcases hv with rfl | rfl <;> rfl) ?_)
   go_simp
   go_wp2
   go_roundw
   case rel => exact .inr ⟨rfl, set2_1 HX2.out, below_set2 (HB2.out.trans ((Below.refl _ wr).drew.mono HB2.out.size)) HS.out⟩
   case measure => simp [intOf]
  ·have HX4 := Sd.mk hx
   have HB4 := Sd.mk hb
   clear hx hb hcp hmk
   go_wp2
   go_ret
   exact ⟨_, rfl, row4 HX4.out, HB4.out⟩
theorem num0_calls (w : World) : Calls Tryz.prog 76 #[.int .i64 0] w fun e w' => e = .returned (.agg #[.int .i64 1, .int .i64 0]) ∧ Below w.heap.size w w' := by
 exact v_Num.calls 0 1 0 w (num_is 0)
theorem knows2_calls (op : ByteArray) (w : World) : Calls Tryz.prog 62 #[.string op, .int .i64 2] w fun e w' => e = .returned (.bool (decide ((vDo op [(1, 0), (1, 0)]).2 = 0))) ∧ Below w.heap.size w w' := by
 rcases hr : vDo op [(1, 0), (1, 0)] with ⟨⟨r1, r2⟩, r3⟩
 have hD := fun (w1 : World) (A : Option Addr) (h : Kd.C k25 w1 A 2 [⟨1, 0⟩, ⟨1, 0⟩]) => v_Do.calls op A 2 [⟨1, 0⟩, ⟨1, 0⟩] r1 r2 r3 w1 h (Nat.le_refl _) (by show some ((vDo op [(1, 0), (1, 0)]).1.1, (vDo op [(1, 0), (1, 0)]).1.2, (vDo op [(1, 0), (1, 0)]).2) = _; rw [hr])
 have HD := Sd.mk hD
 clear hD hr
 go_enter Tryz.func62, Tryz.ntmps62
 go_wp2_with fail
 refine (num0_calls w).mono ?_
 rintro e w1 ⟨rfl, hb1⟩
 have X := blk_new w1 (.cells #[.int .i64 1, .int .i64 0] 25)
 have HR := Sd.mk (repeat2_calls w1.heap.size 1 0 _ ((blk_cell X 0).trans rfl) ((blk_cell X 1).trans rfl))
 have HB := Sd.mk (bal hb1 (.cells #[.int .i64 1, .int .i64 0] 25))
 clear X hb1
 go_wp2_with fail
 refine HR.out.mono ?_
 rintro e w2 ⟨A, rfl, hC, hb2⟩
 have HC := Sd.mk (HD.out w2 A hC)
 have HB2 := Sd.mk (HB.out.trans (hb2.mono HB.out.size))
 clear hC hb2
 go_wp2_with fail
 refine HC.out.mono ?_
 rintro e w3 ⟨rfl, hb3⟩
 have HB3 := Sd.mk (HB2.out.trans (hb3.mono HB2.out.size))
 clear hb3
 by_cases h0 : r3 = 0
 ·subst h0
  go_wp2
  go_ret
  exact ⟨rfl, HB3.out.alloc HB3.out.size _⟩
 ·have n0 : (r3 == 0) = false := by simpa using h0
  have HZ := Sd.mk (decide_eq_false h0)
  clear h0
  go_wp2
  go_ret
  exact ⟨by rw [HZ.out]; rfl, HB3.out.alloc HB3.out.size _⟩
open Go.Proofs.YtcmiehddjgfjaaaGreat.St Go.Proofs.YtcmiehddjgfjaaaGreat.Stable
def hMean : List UInt8 := [109, 101, 97, 110]
def hows : List ByteArray := [⟨#[108, 97, 115, 116]⟩, ⟨#[109, 105, 110]⟩, ⟨#[109, 97, 120]⟩, ⟨#[115, 117, 109]⟩, ⟨#[109, 101, 97, 110]⟩, ⟨#[99, 111, 117, 110, 116]⟩]
def howOk (h : ByteArray) : Bool := hows.any fun x => decide (h.toList = x.toList)
def badP (x : Pt) : Bool := !decide (isV (valP x))
/-- slices.Contains at a row of texts. -/
theorem strs_loop (l : List ByteArray) (hl : l.length < 4611686018427387904) (a : ByteArray) : ∀ (d i : Nat), i + d = l.length → Ev (fun k => B.slices_Index_string_string.l0 k l a (l.length : Int) (i : Int)) (if (l.drop i).any (fun x => decide (a.toList = x.toList)) = true then ((i + (l.drop i).findIdx (fun x => decide (a.toList = x.toList)) : Nat) : Int) else -1)
 | 0, i, h => by
  have e1 : l.drop i = [] := List.drop_of_length_le (by omega)
  rw [e1]
  refine Ev.step (f := fun _ => some (-1)) (fun k => ?_) (Ev.now _)
  simp only [B.slices_Index_string_string.l0]
  rw [if_neg (by omega)]
 | d + 1, i, h => by
  have hi : i < l.length := by omega
  have el : l.drop i = l[i] :: l.drop (i + 1) := List.drop_eq_getElem_cons hi
  have er : rdOf ByteArray.empty l (i : Int) = l[i] := by unfold rdOf; rw [Int.toNat_natCast, List.getD_eq_getElem?_getD, List.getElem?_eq_getElem hi]; rfl
  rw [el, List.any_cons, List.findIdx_cons]
  by_cases e : a.toList = l[i].toList
  ·rw [decide_eq_true e, Bool.true_or, if_pos rfl]
   refine Ev.step (f := fun _ => some (i : Int)) (fun k => ?_) (Ev.now _)
   simp only [B.slices_Index_string_string.l0]
   rw [if_pos (by omega), if_pos (by omega), if_pos (by omega), er, if_pos e]
  ·rw [decide_eq_false e, Bool.false_or]
   have ih := strs_loop l hl a d (i + 1) (by omega)
   refine Ev.step (f := fun k => B.slices_Index_string_string.l0 k l a (l.length : Int) ((i + 1 : Nat) : Int)) (fun k => ?_) ?_
   ·simp only [B.slices_Index_string_string.l0]
    rw [if_pos (by omega), if_pos (by omega), if_pos (by omega), er, if_neg e, wrap_nat (by omega)]
   ·have e2 : ((i + 1 + (l.drop (i + 1)).findIdx (fun x => decide (a.toList = x.toList)) : Nat) : Int) = ((i + ((l.drop (i + 1)).findIdx (fun x => decide (a.toList = x.toList)) + 1) : Nat) : Int) := by omega
    rw [e2] at ih
    exact ih
theorem strs_ev (l : List ByteArray) (hl : l.length < 4611686018427387904) (a : ByteArray) : Ev (fun k => B.slices_Contains_string_string.f k l a) (l.any fun x => decide (a.toList = x.toList)) := by
 have h := strs_loop l hl a l.length 0 (by omega)
 rw [List.drop_zero] at h
 unfold B.slices_Contains_string_string.f
 refine Ev.bind (f := fun k t => some (decide (t ≥ 0))) h ?_
 refine Ev.congr (f := fun _ => some (l.any fun x => decide (a.toList = x.toList))) (fun k => ?_) (Ev.now _)
 congr 1
 cases l.any fun x => decide (a.toList = x.toList) with
 | true => rw [if_pos rfl]; simp
 | false => rw [if_neg (by simp)]; rfl
theorem fresh_S (w : World) (xs : List ByteArray) (hx : xs.length ≤ 9223372036854775807) : Kd.C Kd.string (w.alloc (.cells (xs.map Value.string).toArray 9)) (some ⟨w.heap.size, 0, none⟩) xs.length xs := by
 have r := blk_new w (.cells (xs.map Value.string).toArray 9)
 refine ⟨rfl, hx, fun _ => ⟨_, rfl, fun j p hp => ⟨[.string p], rfl, rfl, fun i u hu => ?_⟩⟩⟩
 match i, hu with
 | 0, hu =>
  rw [Kd.string] at *
  rw [add_at, Nat.zero_add]
  have e := blk_cell r (j * 1 + 0)
  refine Eq.trans (Eq.trans ?_ e) ?_
  ·rfl
  ·rw [Nat.mul_one, Nat.add_zero]
   simp only [List.getElem?_toArray, List.getElem?_map, hp]
   simpa using hu
 | i + 1, hu => simp at hu
theorem howOk_calls (how : ByteArray) (w : World) : Calls Tryz.prog 30 #[.slice (some ⟨w.heap.size, 0, none⟩) 6 6, .string how] (w.alloc (.cells #[.string ⟨#[108, 97, 115, 116]⟩, .string ⟨#[109, 105, 110]⟩, .string ⟨#[109, 97, 120]⟩, .string ⟨#[115, 117, 109]⟩, .string ⟨#[109, 101, 97, 110]⟩, .string ⟨#[99, 111, 117, 110, 116]⟩] 9)) fun e w' => e = .returned (.bool (howOk how)) ∧ Below w.heap.size w w' := by
 obtain ⟨k, hk⟩ := (strs_ev hows (by decide) how).rounds
 refine (B.slices_Contains_string_string.calls k _ 6 hows how _ _ (fresh_S w hows (by decide)) (by decide) hk).mono fun e w' ⟨he, hw⟩ => ⟨he, ?_⟩
 obtain ⟨n, rfl⟩ := hw
 exact pbd (below1 w _) n
theorem red1_calls (x : Pt) (w : World) : Calls Tryz.prog 32 #[.agg #[.int .i64 x.f0, .int .i64 x.f1.f0, .int .i64 x.f1.f1]] w fun e w' => e = .returned (.bool (badP x)) ∧ Below w.heap.size w w' := by
 have hb := below1 w (.cells #[.int .i64 x.f0, .int .i64 x.f1.f0, .int .i64 x.f1.f1] 39)
 have HC := Sd.mk (check1_fresh x.f1.f0 x.f1.f1 (w.alloc (.cells #[.int .i64 x.f0, .int .i64 x.f1.f0, .int .i64 x.f1.f1] 39)))
 have HB := Sd.mk hb
 simp only [World.size_alloc] at HC
 unfold badP valP
 clear hb
 by_cases h : isV (x.f1.f0, x.f1.f1)
 ·rw [if_pos h] at HC
  rw [decide_eq_true h]
  clear h
  go_enter Tryz.func32, Tryz.ntmps32
  go_wp2_with (go_at_call 33; refine HC.out.mono ?_; rintro e w1 ⟨rfl, hb1⟩; have HE := Sd.mk (HB.out.trans (hb1.mono (by omega))); clear hb1)
  go_ret
  exact ⟨rfl, HE.out⟩
 ·rw [if_neg h] at HC
  rw [decide_eq_false h]
  clear h
  go_enter Tryz.func32, Tryz.ntmps32
  go_wp2_with (go_at_call 33; refine HC.out.mono ?_; rintro e w1 ⟨rfl, hb1⟩; have HE := Sd.mk (HB.out.trans (hb1.mono (by omega))); clear hb1)
  go_ret
  exact ⟨rfl, HE.out⟩
theorem many_calls (A : Option Addr) (c : Nat) (p : List Pt) (w : World) (hr : Kd.C k39 w A p.length p) (hc : p.length ≤ c) (hm : p.length < 9223372036854775) :
  Calls Tryz.prog 38 #[.slice A p.length c] w fun e w' => e = .returned (.agg #[.int .i64 (vNum (1000 * (p.length : Int))).1, .int .i64 (vNum (1000 * (p.length : Int))).2]) ∧ Below w.heap.size w w' :=
 s_many.calls A c p _ _ w hr hc (by unfold s_many.f; rw [show wrap64 (1000 * (p.length : Int)) = 1000 * (p.length : Int) by unfold wrap64; omega, num_is]; rfl)
theorem total_at (A : Option Addr) (c : Nat) {p : List Pt} {x : Pt} {p' : List Pt} (hp : p = x :: p') (w : World) (hr : Kd.C k39 w A p.length p) (hc : p.length ≤ c) :
  Calls Tryz.prog 44 #[.slice A p.length c] w fun e w' => e = .returned (.agg #[.int .i64 (totalGo (valP x) p').1, .int .i64 (totalGo (valP x) p').2]) ∧ Below w.heap.size w w' := by
 subst hp; exact total_calls A c x p' w hr hc
end Go.Proofs.YtcmiehddjgfjaaaGreat.A
namespace Go.Proofs.YtcmiehddjgfjaaaGreat.A.ColS
open Go Go.RowKit Go.Shelf Go.Maps Go.Proofs.YtcmiehddjgfjaaaGreatW.PrintWords Go.Proofs.YtcmiehddjgfjaaaGreatW.PrintLast Go.Proofs.YtcmiehddjgfjaaaGreatW.PrintMore
attribute [local go_sem] Oper.semAt_some
abbrev Rw := (Option Addr × Nat × Nat) × Int × Int
def cl (x : Rw) : List Value := [.slice x.1.1 x.1.2.1 x.1.2.2, .int .i64 x.2.1, .int .i64 x.2.2]
def z0 : Rw := ((none, 0, 0), 0, 0)
abbrev encs (x : Rw) : Array Value := #[.agg #[.slice x.1.1 x.1.2.1 x.1.2.2, .int .i64 x.2.1, .int .i64 x.2.2]]
/-- What has come when k rounds are over. -/
def upto {α : Type} (f : Nat → α) (k : Nat) : List α := (List.range k).map f
theorem upto_succ {α : Type} (f : Nat → α) (k : Nat) : upto f (k + 1) = upto f k ++ [f k] := by simp [upto, List.range_succ]
theorem upto_length {α : Type} (f : Nat → α) (k : Nat) : (upto f k).length = k := by simp [upto]
theorem upto_all (zs : List Rw) : upto (fun j => zs[j]?.getD z0) zs.length = zs := by
 apply List.ext_getElem
 ·simp [upto]
 ·intro i h1 h2
  simp [upto, h2]
/-- Row A holds zs. -/
def Holds (W : World) (ad : Addr) (zs : List Rw) : Prop := ∀ j, j < zs.length → W.cell? (ad.add (j * 3)) = some (.slice (zs[j]?.getD z0).1.1 (zs[j]?.getD z0).1.2.1 (zs[j]?.getD z0).1.2.2) ∧ W.cell? ⟨(ad.add (j * 3)).block, (ad.add (j * 3)).off + 1, none⟩ = some (.int .i64 (zs[j]?.getD z0).2.1) ∧ W.cell? ⟨(ad.add (j * 3)).block, (ad.add (j * 3)).off + 2, none⟩ = some (.int .i64 (zs[j]?.getD z0).2.2)
theorem values1_in (F : Fence) (n : Nat) (h7 : F.fn 90) (hro : F.round = none) (hn : 1 ≤ n) (l Bs n₀ : Nat) (ad : Addr) (cap : Nat) (zs : List Rw) (hreach : zs.length * 40 ≤ 140737488355328) (hb : ad.block < n₀) (J Jx : List Rw → World → Prop) (B : Nat) (hJa : AbidesFrom B J)
  (hY : ∀ pre x W, J pre W → pre.length < zs.length → YieldAt F (n - 1) Tryz.prog l (encs x) W fun e W' =>
   (e = .returned (.bool true) ∧ J (pre ++ [x]) W' ∧ Below n₀ W W') ∨ (e = .returned (.bool false) ∧ Jx (pre ++ [x]) W'))
  (W : World) (hBs : W.cell? ⟨Bs, 0, none⟩ = some (.slice (some ad) zs.length cap)) (hc : Holds W ad zs) (hBn : n₀ ≤ W.heap.size) (h0 : J [] W) :
  CallsIn F n Tryz.prog 90 #[.func (.yield l) #[] #[], .pointer (some ⟨Bs, 0, none⟩)] W fun e W' => (∃ v, e = .returned v) ∧
   ((∃ ys, ys = upto (fun j => zs[j]?.getD z0) zs.length ∧ J ys W') ∨ (∃ pre, (∃ k, k ≤ zs.length ∧ pre = upto (fun j => zs[j]?.getD z0) k) ∧ Jx pre W')) := by
 refine callsIn_of_wp Tryz.func90 rfl h7 ?_ hro
 simp only [Tryz.ntmps90, List.size_toArray, List.length_cons, List.length_nil, Nat.reduceAdd, Nat.reduceSub, Array.replicate_succ, Array.replicate_zero, List.push_toArray, List.append_toArray, List.nil_append, List.cons_append]
 gi_wp2
 gi_loopw [7] (fun i wr => ∃ k : Nat, k ≤ zs.length ∧ i = .int .i64 k ∧ J (upto (fun j => zs[j]?.getD z0) k) wr ∧ Below n₀ W wr)
  (fun i _ => zs.length - (intOf i).toNat)
 case atStart => exact ⟨0, Nat.zero_le _, rfl, h0, Below.refl _ _⟩
 case round =>
  obtain ⟨k, hk, rfl, hJs, hnx⟩ := hrel
  by_cases hlt : k < zs.length
  ·obtain ⟨c0, c1, c2⟩ := hc k hlt
   have q0 := (hnx.cell (p := ad.add (k * 3)) (by rw [add_block]; exact hb)).trans c0
   have q1 := (hnx.cell (p := ⟨(ad.add (k * 3)).block, (ad.add (k * 3)).off + 1, none⟩) (by show (ad.add (k * 3)).block < n₀; rw [add_block]; exact hb)).trans c1
   have q2 := (hnx.cell (p := ⟨(ad.add (k * 3)).block, (ad.add (k * 3)).off + 2, none⟩) (by show (ad.add (k * 3)).block < n₀; rw [add_block]; exact hb)).trans c2
   clear c0 c1 c2
   obtain ⟨x, hx⟩ : ∃ x, zs[k]?.getD z0 = x := ⟨_, rfl⟩
   rw [hx] at q0 q1 q2
   obtain ⟨⟨A0, n0, k0⟩, y1, y2⟩ := x
   simp only at q0 q1 q2
   have hJw : J (upto (fun j => zs[j]?.getD z0) k) (wr.alloc (.cells #[.slice A0 n0 k0, .int .i64 y1, .int .i64 y2] 37)) := hJa _ _ _ _ hJs (World.grownBy_alloc wr _ none) (fun r e => by cases e)
   obtain ⟨fn, tmps, assign, body, hy, hR⟩ := hY _ ((A0, n0, k0), y1, y2) _ hJw (by rw [upto_length]; exact hlt)
   have HX := Sd.mk hx
   clear hx
   gi_wp2
   refine hR.mono ?_
   rintro e W3 (⟨rfl, hJ3, hk3⟩ | ⟨rfl, hJx3⟩)
   ·gi_wp2
    go_roundw
    case rel => exact ⟨k + 1, by omega, by simp, by rw [upto_succ, HX.out]; exact hJ3, (hnx.alloc (by have := hnx.size; omega) _).trans hk3⟩
    case measure => simp [intOf]; omega
   ·gi_wp2
    refine bodyPost_ret (results_none rfl _ _ _) rfl ?_
    exact ⟨⟨_, rfl⟩, .inr ⟨_, ⟨k + 1, by omega, by rw [upto_succ, HX.out]⟩, hJx3⟩⟩
  ·obtain rfl : k = zs.length := by omega
   gi_wp2
   go_end0
   exact ⟨⟨_, rfl⟩, .inl ⟨_, rfl, hJs⟩⟩
theorem upto_take (zs : List Rw) {k : Nat} (hk : k ≤ zs.length) : upto (fun j => zs[j]?.getD z0) k = zs.take k := by
 apply List.ext_getElem
 ·simp [upto, hk]
 ·intro i h1 h2
  have : i < zs.length := by simp [upto] at h1; omega
  simp [upto, this]
/-- .. at no element: no round. -/
theorem values1_nil_in (F : Fence) (n : Nat) (h7 : F.fn 90) (hro : F.round = none) (l Bs : Nat) (A : Option Addr) (c : Nat) (J : List Rw → World → Prop) (W : World) (hBs : W.cell? ⟨Bs, 0, none⟩ = some (.slice A 0 c)) (h0 : J [] W) :
  CallsIn F n Tryz.prog 90 #[.func (.yield l) #[] #[], .pointer (some ⟨Bs, 0, none⟩)] W fun e W' => (∃ v, e = .returned v) ∧ J [] W' := by
 refine callsIn_of_wp Tryz.func90 rfl h7 ?_ hro
 simp only [Tryz.ntmps90, List.size_toArray, List.length_cons, List.length_nil, Nat.reduceAdd, Nat.reduceSub, Array.replicate_succ, Array.replicate_zero, List.push_toArray, List.append_toArray, List.nil_append, List.cons_append]
 gi_wp2
 gi_loopw [7] (fun i wr => i = .int .i64 0 ∧ J [] wr) (fun _ _ => 0)
 case atStart => exact ⟨rfl, h0⟩
 case round =>
  obtain ⟨rfl, hJs⟩ := hrel
  gi_wp2
  go_end0
  exact ⟨⟨_, rfl⟩, hJs⟩
/-- slices.Values: the slice value is boxed; the function value captures the box. -/
theorem values_in (F : Fence) (n : Nat) (h5 : F.fn 55) (hro : F.round = none) (a : Option Addr) (len cap : Nat) (w : World) :
  CallsIn F n Tryz.prog 55 #[.slice a len cap] w fun e w' => e = .returned (.func (.func 90) #[] #[.pointer (some ⟨w.heap.size, 0, none⟩)]) ∧ w' = w.alloc (.cells #[.slice a len cap] 33) := by
 refine callsIn_of_wp Tryz.func55 rfl h5 ?_ hro
 simp only [Tryz.ntmps55, List.size_toArray, List.length_cons, List.length_nil, Nat.reduceAdd, Nat.reduceSub, Array.replicate_succ, Array.replicate_zero, List.push_toArray, List.append_toArray, List.nil_append, List.cons_append]
 gi_wp2
 go_ret
 exact ⟨rfl, rfl⟩
/-- A row of cells below n₀ (or none). -/
def Row (n₀ : Nat) (W : World) (A : Option Addr) (zs : List Rw) : Prop := zs = [] ∨ ∃ ad, A = some ad ∧ ad.block < n₀ ∧ Holds W ad zs
theorem Row.below {n₀ : Nat} {X Y : World} (h : Below n₀ X Y) {A : Option Addr} {zs : List Rw} : Row n₀ X A zs → Row n₀ Y A zs
 | .inl e => .inl e
 | .inr ⟨ad, e, hb, hc⟩ => .inr ⟨ad, e, hb, fun j hj => by
  obtain ⟨c0, c1, c2⟩ := hc j hj
  exact ⟨(h.cell (p := ad.add (j * 3)) (by rw [add_block]; exact hb)).trans c0, (h.cell (p := ⟨(ad.add (j * 3)).block, (ad.add (j * 3)).off + 1, none⟩) (by show (ad.add (j * 3)).block < n₀; rw [add_block]; exact hb)).trans c1, (h.cell (p := ⟨(ad.add (j * 3)).block, (ad.add (j * 3)).off + 2, none⟩) (by show (ad.add (j * 3)).block < n₀; rw [add_block]; exact hb)).trans c2⟩⟩
/-- slices.Values hands back a value that gives the row's elements, in order. -/
theorem values_stops (F : Fence) (n : Nat) (h7 : F.fn 90) (hro : F.round = none) (hn : 1 ≤ n) (Bs n₀ : Nat) (A : Option Addr) (cap : Nat) (zs : List Rw) (hreach : zs.length * 40 ≤ 140737488355328) (w : World) (hBs : Bs < w.heap.size) (hn₀ : n₀ ≤ w.heap.size)
  (hc : w.cell? ⟨Bs, 0, none⟩ = some (.slice A zs.length cap)) (hI : Row n₀ w A zs) :
  SeqStopsK F n Tryz.prog 90 #[.pointer (some ⟨Bs, 0, none⟩)] encs (Below n₀) (fun ys => ys = zs) (fun pre => pre <+: zs) zs.length w := fun l J Jx W hW hJa _ hY h0 => by
 have hc' := (hW.cell (p := ⟨Bs, 0, none⟩) hBs).trans hc
 rcases hI.below (hW.mono hn₀) with rfl | ⟨ad, rfl, hb, hcs⟩
 ·exact (values1_nil_in F n h7 hro l Bs A cap J W hc' h0).mono fun e W' ⟨he, hj⟩ => ⟨he, .inl ⟨_, rfl, hj⟩⟩
 ·refine (values1_in F n h7 hro hn l Bs n₀ ad cap zs hreach hb J Jx _ hJa hY W hc' hcs (Nat.le_trans hn₀ hW.size) h0).mono ?_
  rintro e W' ⟨he, ⟨ys, rfl, hj⟩ | ⟨pre, ⟨k, hk, rfl⟩, hj⟩⟩
  ·exact ⟨he, .inl ⟨_, upto_all zs, hj⟩⟩
  ·exact ⟨he, .inr ⟨_, by rw [upto_take zs hk]; exact List.take_prefix _ _, hj⟩⟩
def flat (zs : List Rw) : List Value := zs.flatMap cl
theorem flat_snoc (zs : List Rw) (x : Rw) : flat (zs ++ [x]) = flat zs ++ cl x := by simp [flat]
theorem cells_new (W : World) (x : Rw) (t : TypeId) : ∀ (j : Nat) (u : Value), (cl x)[j]? = some u → (W.alloc (.cells #[.slice x.1.1 x.1.2.1 x.1.2.2, .int .i64 x.2.1, .int .i64 x.2.2] t)).cell? ((⟨W.heap.size, 0, none⟩ : Addr).add j) = some u := by
 intro j u hu
 have h := blk_cell (blk_new W (.cells #[.slice x.1.1 x.1.2.1 x.1.2.2, .int .i64 x.2.1, .int .i64 x.2.2] t)) j
 rw [add_at, Nat.zero_add, h]
 match j, hu with
 | 0, hu => exact hu
 | 1, hu => exact hu
 | 2, hu => exact hu
 | j + 3, hu => simp [cl] at hu
theorem cl_one (x : Rw) : ∀ u ∈ cl x, u.oneCell' = true := by
 intro u hu
 simp only [cl, List.mem_cons, List.not_mem_nil, or_false] at hu
 rcases hu with rfl | rfl | rfl <;> rfl
/-- A loop variable's box. -/
def VBox (W : World) (Bx : Nat) (x : Rw) : Prop := W.heap[Bx]? = some (.cells #[.slice x.1.1 x.1.2.1 x.1.2.2, .int .i64 x.2.1, .int .i64 x.2.2] 37 (0, 0))
theorem appendSeq_in (F : Fence) (n : Nat) (h145 : F.fn 145) (h90 : F.fn 90) (hro : F.round = none) (hn : 2 ≤ n) (Bs : Nat) (A : Option Addr) (cap : Nat) (zs : List Rw) (hreach : zs.length * 40 ≤ 140737488355328) (w : World) (hBs : Bs < w.heap.size)
  (hc : w.cell? ⟨Bs, 0, none⟩ = some (.slice A zs.length cap)) (hI : Row w.heap.size w A zs) :
  CallsIn F n Tryz.prog 145 #[.slice none 0 0, .func (.func 90) #[] #[.pointer (some ⟨Bs, 0, none⟩)]] w fun e W' => ∃ v, e = .returned v ∧ W'.ownsRow w.heap.size 37 3 v zs.length (flat zs) ∧ Below w.heap.size w W' := by
 have h1 : 1 ≤ n := by omega
 obtain ⟨i0, hi, hz0, hz1, hz2⟩ := info_parts info37
 refine callsIn_of_wp_marks Tryz.func145 rfl h145 ?_ hro
 simp only [Tryz.ntmps145, List.size_toArray, List.length_cons, List.length_nil, Nat.reduceAdd, Nat.reduceSub, Array.replicate_succ, Array.replicate_zero, List.push_toArray, List.append_toArray, List.nil_append, List.cons_append]
 gi_wp2
 have bS := Boxed.new w 33 (.slice none 0 0)
 have hB0 : Below w.heap.size w (w.alloc (.cells #[.slice none 0 0] 33)) := (Below.refl _ w).alloc (Nat.le_refl _) _
 refine wpIn_rangeFunc_ownH hro h1 (gf := 90) (lb := #[.pointer (some ⟨Bs, 0, none⟩)]) rfl h90 (enters_of Tryz.func90 (by kernel_rfl) rfl)
  (values_stops F (n - 1) h90 hro (by omega) Bs w.heap.size A cap zs hreach _ (by simp; omega) (by simp) ((hB0.cell (p := ⟨Bs, 0, none⟩) hBs).trans hc) (hI.below hB0)) belowK_t (belowK_b (by simp)) (Below.refl _ _) (fun _ => rfl)
  (fun pre W => (∃ v, Boxed W w.heap.size 33 v ∧ W.ownsRow w.heap.size 37 3 v pre.length (flat pre) ∧ True) ∧ Below w.heap.size w W)
  (fun _ _ _ => False)
  (OwnFrom.and (Own.from (holdsRow_own w.heap.size w.heap.size 33 37 3 (fun pre : List Rw => pre.length) (fun pre => flat pre) (fun _ _ => True)) _) (ownFrom_below (Nat.le_refl _) (by simp)))
  (fun _ _ _ _ _ hs _ _ => hs)
  ⟨⟨_, bS, World.ownsRow_nil _ _ _ _, trivial⟩, hB0⟩
  (fun x a' W => ∃ Bx, w.heap.size < Bx ∧ VBox W Bx x ∧ a' = { tmps := #[.slice none 0 0, .func (.func 90) #[] #[.pointer (some ⟨Bs, 0, none⟩)], .pointer (some ⟨w.heap.size, 0, none⟩), undef, .slice none 0 0, .pointer (some ⟨Bx, 0, none⟩), .func (.func 90) #[] #[.pointer (some ⟨Bs, 0, none⟩)], .agg #[.slice x.1.1 x.1.2.1 x.1.2.2, .int .i64 x.2.1, .int .i64 x.2.2], undef, undef, undef, undef, undef], defers := [] })
  (fun x a' _ W W' row hs hg hr => by
   obtain ⟨Bx, hB, hv, he⟩ := hs
   refine ⟨Bx, hB, (hg.block Bx (Array.getElem?_eq_some_iff.1 hv).1 (fun e => ?_)).trans hv, he⟩
   obtain ⟨_, o, ho, hoc⟩ := hr Bx e.symm
   rw [hv] at ho
   cases ho
   cases hoc) ?assign ?body ?done ?stop
 case assign =>
  rintro l pre x W K ⟨⟨v, hv, hrow, _⟩, hB⟩ hK
  obtain ⟨⟨A0, n0, k0⟩, y1, y2⟩ := x
  gi_wp2
  exact hK _ _ ((KeepsOthers.alloc _ _).from _) ((Below.refl _ W).alloc hB.size _) ⟨⟨v, hv.alloc _, hrow.alloc _, trivial⟩, hB.alloc hB.size _⟩ ⟨W.heap.size, hv.lt, blk_new W _, rfl⟩
 case body =>
  rintro l pre x a' W hl ⟨r, hr⟩ ⟨⟨v, hv, hrow, _⟩, hB⟩ ⟨Bx, hBx, hvx, rfl⟩ hlt
  obtain ⟨⟨A0, n0, k0⟩, y1, y2⟩ := x
  have b0 := (blk_cell hvx 0).trans rfl
  have b1 := (blk_cell hvx 1).trans rfl
  have b2 := (blk_cell hvx 2).trans rfl
  have hvc := hv.cell
  have hvf := hv.frozen
  have hle : w.heap.size ≤ W.heap.size := hB.size
  gi_wp2_with (gi_at_builtin; refine wpListIn_append_own _ rfl _ _ 33 rfl w.heap.size 37 i0 _ 3 40 Tryz.underlying33 hi hz0 hz1 hz2 rfl (by decide) _ _ _ rfl (hrow.alloc _) ⟨W.heap.size, 0, none⟩ 1 1 (cl ((A0, n0, k0), y1, y2)) rfl rfl (cells_new W ((A0, n0, k0), y1, y2) _) (cl_one _) (by unfold maxLen; omega) (by omega) (by simp; omega) ?_; intro v' w1 hown' hgrow _; obtain ⟨g', cap', rfl⟩ := ownsRow_succ hown'; obtain ⟨hv1, hv2, hr2, hk2, hb2⟩ := hv.appended (by decide) hrow hB.size (Nat.le_refl _) hown' hgrow; have hc1 := hv1.cell; have hf1 := hv1.frozen)
  exact ⟨hk2.from _, hb2, ⟨_, hv2, by rw [flat_snoc, List.length_append]; exact hr2⟩, hB.trans hb2⟩
 case done =>
  rintro D ys W hD rfl ⟨⟨v, hv, hrow, _⟩, hB⟩ hK
  have hvc := hv.cell
  gi_wp2
  refine ⟨by simp, .inl ⟨_, _, rfl, run_takeDeferred hK, ?_⟩⟩
  exact ⟨_, results_tmp rfl _ _ _, v, rfl, ownsRow_putObj hrow _ hK rfl, hB.trans (belowK_b (w := w) (Nat.le_refl _) W D _ _ (by simp at hD; omega) hK rfl rfl)⟩
 case stop =>
  rintro D c pre W _ _ h _
  exact h.elim
end Go.Proofs.YtcmiehddjgfjaaaGreat.A.ColS
namespace Go.Proofs.YtcmiehddjgfjaaaGreat.St.GSs
open Go.Proofs Go.Shelf Go.RowKit Go.Lib Go.Sort
/-- What the walks take of a program: its functions and types at these numbers. -/
structure StLays (P : Program) : Prop where
 mixed : P.follows .mixedOrders = true
 f30 : P.funcs[146]? = some Tryz.f146
 f33 : P.funcs[167]? = some Tryz.f167
 f34 : P.funcs[168]? = some Tryz.f168
 f36 : P.funcs[177]? = some Tryz.f177
 f37 : P.funcs[181]? = some Tryz.f181
 e33 : ∀ args w, (callFunc 167 args).run P w = .ok (.enter 167 args) w
 e34 : ∀ args w, (callFunc 168 args).run P w = .ok (.enter 168 args) w
 e36 : ∀ args w, (callFunc 177 args).run P w = .ok (.enter 177 args) w
 e37 : ∀ args w, (callFunc 181 args).run P w = .ok (.enter 181 args) w
 t3 : P.underlying 3 = some (TypeDesc.int IntKind.i64)
 a3 : ∀ w, (isAgg 3).run P w = .ok false w
 z3 : ∀ w, (Go.sizeOf 3).run P w = .ok 1 w
 v3 : ∀ w, (zeroValue 3).run P w = .ok (Value.int IntKind.i64 0) w
 t4 : P.underlying 4 = some (TypeDesc.bool)
 a4 : ∀ w, (isAgg 4).run P w = .ok false w
 z4 : ∀ w, (Go.sizeOf 4).run P w = .ok 1 w
 v4 : ∀ w, (zeroValue 4).run P w = .ok (Value.bool false) w
 t53 : P.underlying 141 = some (TypeDesc.int IntKind.u64)
 a53 : ∀ w, (isAgg 141).run P w = .ok false w
 z53 : ∀ w, (Go.sizeOf 141).run P w = .ok 1 w
 t22 : P.underlying 33 = some (TypeDesc.slice 37)
 a22 : ∀ w, (isAgg 33).run P w = .ok false w
 z22 : ∀ w, (Go.sizeOf 33).run P w = .ok 1 w
 t45 : P.underlying 82 = some (TypeDesc.func #[37, 37] #[3] false)
 a45 : ∀ w, (isAgg 82).run P w = .ok false w
 z45 : ∀ w, (Go.sizeOf 82).run P w = .ok 1 w
variable {P : Program} {α : Type} [Inhabited α]
theorem swapRange_w (L : StLays P) (k : Nat) (aE : ∀ w, (isAgg 37).run P w = .ok true w) (zE : ∀ w, (Go.sizeOf 37).run P w = .ok k w) (enc : α → List Value) (g : Nat) (cb : Array Value) (blk off cap a b n : Nat) (d0 d : Array α) (w0 w : World)
  (R : RowK enc k w0 blk off d0) (hs : d0.size = d.size) (S : SB enc k w0 blk off d w) (ha : a + n ≤ d.size) (hb : b + n ≤ d.size) (hsz : d.size < 4611686018427387904) :
  Calls P 181 #[.slice (some ⟨blk, off, none⟩) d.size cap, .int .i64 a, .int .i64 b, .int .i64 n, .func (.func g) #[] cb] w fun e w' => e = .returned (.tuple #[]) ∧ SB enc k w0 blk off (swpR a b 0 n d) w' := by
 have mixed := L.mixed; have t3 := L.t3; have a3 := L.a3; have z3 := L.z3; have v3 := L.v3; have t4 := L.t4; have a4 := L.a4; have z4 := L.z4; have v4 := L.v4; have t22 := L.t22; have a22 := L.a22; have z22 := L.z22
 have FG := L.f37
 have S0 : Aside (SB enc k w0 blk off d w) := S
 clear S
 go_enter FG, Tryz.ntmps181
 go_wp2_with fail
 go_loopg [10] n (fun kx s10 wr => ∃ (i : Nat) (dk : Array α), s10 = .int .i64 i ∧ i ≤ n ∧ kx = n - i ∧ dk.size = d.size ∧ Aside (SB enc k w0 blk off dk wr) ∧ swpR a b i (n - i) dk = swpR a b 0 n d)
 case atStart => exact ⟨0, d, rfl, Nat.zero_le _, rfl, rfl, S0, rfl⟩
 case round =>
  clear S0
  obtain ⟨i, dk, rfl, hin, hkx, hds, S1, heq⟩ := hrel
  by_cases hlt : i < n
  ·have hltz : (i : Int) < (n : Int) := by omega
   go_wp2_with fail
   have eA : ((a : Int) + (i : Int)).toNat = a + i := by omega
   have pA : (0 : Int) ≤ (a : Int) + (i : Int) := by omega
   have bA : (a : Int) + (i : Int) < (d.size : Int) := by omega
   have rA : IntKind.i64.wrap ((a : Int) + (i : Int)) = (a : Int) + (i : Int) := by rw [IntKind.wrap_i64]; omega
   have eB : ((b : Int) + (i : Int)).toNat = b + i := by omega
   have pB : (0 : Int) ≤ (b : Int) + (i : Int) := by omega
   have bB : (b : Int) + (i : Int) < (d.size : Int) := by omega
   have rB : IntKind.i64.wrap ((b : Int) + (i : Int)) = (b : Int) + (i : Int) := by rw [IntKind.wrap_i64]; omega
   have S2 : Aside (SB enc k w0 blk off (swp dk (a + i) (b + i)) ((wr.drew.setCells blk (off + (a + i) * k) (enc dk[b + i]!)).setCells blk (off + (b + i) * k) (enc dk[a + i]!))) := S1.out.swapped R (a + i) (b + i) (by omega) (by omega)
   have la := S1.out.ld1 R (by omega) P (a + i) (by omega)
   have lb := S1.out.ld1 R (by omega) P (b + i) (by omega)
   have sa := S1.out.st1 R (by omega) P (a + i) (by omega) dk[b + i]!
   have sb := S1.out.st2 R (by omega) P (a + i) (b + i) (by omega) (by omega) dk[b + i]! dk[a + i]!
   have na : (enc dk[a + i]!).length = k := R.hk _
   have nb : (enc dk[b + i]!).length = k := R.hk _
   generalize enc dk[a + i]! = cI at S2 la sb na
   generalize enc dk[b + i]! = cJ at S2 lb sa sb nb
   clear S1
   go_wp2_with fail
   go_big_region_o
   clear la lb sa sb
   generalize (wr.drew.setCells blk (off + (a + i) * k) cJ).setCells blk (off + (b + i) * k) cI = w2 at S2 ⊢
   go_wp2
   go_roundg (n - (i + 1))
   case measure => omega
   case rel =>
    rw [show n - i = n - (i + 1) + 1 by omega, swpR] at heq
    exact ⟨i + 1, swp dk (a + i) (b + i), by go_num, by omega, rfl, by rw [size_swp]; exact hds, S2, heq⟩
  ·have hi : i = n := by omega
   subst hi
   go_wp2
   go_end0
   refine ⟨rfl, ?_⟩
   rw [Nat.sub_self, swpR] at heq
   rw [← heq]
   exact S1.out
variable {P : Program} {α : Type} [Inhabited α]
theorem rotate_w (L : StLays P) (k : Nat) (aE : ∀ w, (isAgg 37).run P w = .ok true w) (zE : ∀ w, (Go.sizeOf 37).run P w = .ok k w) (enc : α → List Value) (g : Nat) (cb : Array Value) (blk off cap a m b : Nat) (d0 d : Array α) (w0 w : World)
  (R : RowK enc k w0 blk off d0) (hs : d0.size = d.size) (S : SB enc k w0 blk off d w) (ham : a < m) (hmb : m < b) (hb : b ≤ d.size) (hsz : d.size < 4611686018427387904) (t : List α) (ht : Left m t (m - a) (b - m) d) :
  Calls P 177 #[.slice (some ⟨blk, off, none⟩) d.size cap, .int .i64 a, .int .i64 m, .int .i64 b, .func (.func g) #[] cb] w fun e w' => e = .returned (.tuple #[]) ∧ ∃ d', d'.toList = t ∧ d'.size = d.size ∧ SB enc k w0 blk off d' w' := by
 have mixed := L.mixed; have t3 := L.t3; have a3 := L.a3; have z3 := L.z3; have v3 := L.v3; have t4 := L.t4; have a4 := L.a4; have z4 := L.z4; have v4 := L.v4; have t22 := L.t22; have a22 := L.a22; have z22 := L.z22
 have FG := L.f36
 have e37 := L.e37
 have S0 : Aside (SB enc k w0 blk off d w) := S
 have HT : Aside (Left m t (m - a) (b - m) d) := ht
 have LL : Aside (StLays P) := L
 clear S ht L
 have c1 : ((m - a : Nat) : Int) = (m : Int) - (a : Int) := by omega
 have c2 : ((b - m : Nat) : Int) = (b : Int) - (m : Int) := by omega
 have C1 := aside (c1)
 have C2 := aside (c2)
 clear c1 c2
 go_enter FG, Tryz.ntmps177
 go_wp2_with fail
 go_loopg [10, 11] (b - a) (fun kx s10 s11 wr => ∃ (i j : Nat) (dk : Array α), s10 = .int .i64 i ∧ s11 = .int .i64 j ∧ 0 < i ∧ 0 < j ∧ kx = i + j ∧ i ≤ m ∧ m + j ≤ d.size ∧ dk.size = d.size ∧ Aside (SB enc k w0 blk off dk wr) ∧ Aside (Left m t i j dk))
 case atStart => exact ⟨m - a, b - m, d, by rw [C1.out], by rw [C2.out], by omega, by omega, by omega, by omega, by omega, rfl, S0, HT⟩
 case round =>
  clear S0 HT
  obtain ⟨i, j, dk, rfl, rfl, hi, hj, hkx, him, hmj, hds, S1, HL⟩ := hrel
  have call : ∀ (x y n : Nat), x + n ≤ d.size → y + n ≤ d.size → Calls P 181 #[.slice (some ⟨blk, off, none⟩) d.size cap, .int .i64 x, .int .i64 y, .int .i64 n, .func (.func g) #[] cb] wr fun e w' => e = .returned (.tuple #[]) ∧ SB enc k w0 blk off (swpR x y 0 n dk) w' := by
   intro x y n hx hy
   rw [← hds]
   exact swapRange_w LL.out k aE zE enc g cb blk off cap x y n d0 dk w0 wr R (by omega) S1.out (by omega) (by omega) (by omega)
  have CALL := aside (call)
  clear call
  by_cases he : i = j
  ·subst he
   have c3 : ((m : Int) - (i : Int)) = ((m - i : Nat) : Int) := by omega
   have hc := CALL.out (m - i) m i (by omega) (by omega)
   have HL2 := aside (left_same HL.out)
   clear CALL HL
   go_wp2_with (go_at_fn 181; refine hc.mono ?_; rintro e w1 ⟨rfl, hw1⟩)
   go_end0
   exact ⟨rfl, _, HL2.out, by rw [swpR_size]; exact hds, hw1⟩
  ·by_cases hg : j < i
   ·have c3 : ((m : Int) - (i : Int)) = ((m - i : Nat) : Int) := by omega
    have hc := CALL.out (m - i) m j (by omega) (by omega)
    have HL2 := aside (left_great HL.out hg)
    clear CALL HL
    go_wp2_with (go_at_fn 181; refine hc.mono ?_; rintro e w1 ⟨rfl, hw1⟩)
    have S2 := aside (hw1)
    clear hw1 hc
    go_roundg (i - j + j)
    case measure => omega
    case rel => exact ⟨i - j, j, _, by go_num, rfl, by omega, by omega, rfl, by omega, by omega, by rw [swpR_size]; exact hds, S2, HL2⟩
   ·have c3 : ((m : Int) - (i : Int)) = ((m - i : Nat) : Int) := by omega
    have c4 : ((m : Int) + (j : Int) - (i : Int)) = ((m + j - i : Nat) : Int) := by omega
    have hc := CALL.out (m - i) (m + j - i) i (by omega) (by omega)
    have HL2 := aside (left_less HL.out (by omega))
    clear CALL HL
    go_wp2_with (go_at_fn 181; refine hc.mono ?_; rintro e w1 ⟨rfl, hw1⟩)
    have S2 := aside (hw1)
    clear hw1 hc
    go_roundg (i + (j - i))
    case measure => omega
    case rel => exact ⟨i, j - i, _, rfl, by go_num, by omega, by omega, rfl, by omega, by omega, by rw [swpR_size]; exact hds, S2, HL2⟩
open Go.Proofs.YtcmiehddjgfjaaaGreat.Stable
variable {P : Program} {α : Type} [Inhabited α]
theorem half_nat (i j : Nat) (hj : j < 4611686018427387904) (h : i < j) : ∃ h : Nat, ((i : Int) + (j : Int)) / 2 = (h : Int) ∧ i ≤ h ∧ h < j := ⟨(i + j) / 2, by omega, by omega, by omega⟩
theorem symLeft_w (L : StLays P) (k : Nat) (aE : ∀ w, (isAgg 37).run P w = .ok true w) (zE : ∀ w, (Go.sizeOf 37).run P w = .ok k w) (enc : α → List Value) (cf : α → α → Int) (g : Nat) (cb : Array Value) (eg : ∀ args w, (callFunc g args).run P w = .ok (.enter g args) w)
  (blk off cap a m b : Nat) (d0 d : Array α) (w0 w : World)
  (R : RowK enc k w0 blk off d0) (hs : d0.size = d.size) (hC : CmpB P g cb enc k cf blk off d.size w0) (O : Stable.Ord (ltOf cf)) (S : SB enc k w0 blk off d w) (hm : m = a + 1) (hmb : m < b) (hb : b ≤ d.size) (hsz : d.size < 4611686018427387904)
  (pre U V post : List α) (T : Two (ltOf cf) a m b pre U V post d) :
  Calls P 168 #[.slice (some ⟨blk, off, none⟩) d.size cap, .int .i64 a, .int .i64 m, .int .i64 b, .func (.func g) #[] cb] w fun e w' => e = .returned (.tuple #[]) ∧ ∃ d', d'.toList = pre ++ (merge (ltOf cf) U V ++ post) ∧ d'.size = d.size ∧ SB enc k w0 blk off d' w' := by
 have mixed := L.mixed; have t3 := L.t3; have a3 := L.a3; have z3 := L.z3; have v3 := L.v3; have t4 := L.t4; have a4 := L.a4; have z4 := L.z4; have v4 := L.v4; have t53 := L.t53; have a53 := L.a53; have z53 := L.z53; have t22 := L.t22; have a22 := L.a22; have z22 := L.z22; have t45 := L.t45
 have FG := L.f34
 have S0 : Aside (SB enc k w0 blk off d w) := S
 have HC : Aside (CmpB P g cb enc k cf blk off d.size w0) := hC
 have HT : Aside (Two (ltOf cf) a m b pre U V post d) := T
 have HO : Aside (Stable.Ord (ltOf cf)) := O
 have B0 : Aside (Bin (fun q => ltOf cf d[q]! d[a]!) m b m b) := Bin.start (T.mono1 O) (by omega)
 have HM : Aside (m = a + 1) := hm
 have am : a < m := by omega
 have tm : ((m : Int) - (a : Int) == 1) = true := by rw [beq_iff_eq]; omega
 have RR : Aside (RowK enc k w0 blk off d0) := R
 have HS : Aside (d0.size = d.size) := hs
 clear S hC T O hm L hs R
 go_enter FG, Tryz.ntmps168
 go_wp2_with fail
 go_loopg [10, 11] b (fun kx s10 s11 wr => ∃ (i j : Nat), s10 = .int .i64 i ∧ s11 = .int .i64 j ∧ m ≤ i ∧ i ≤ j ∧ j ≤ b ∧ Aside (kx = j - i + m) ∧ Aside (SB enc k w0 blk off d wr) ∧ Aside (Bin (fun q => ltOf cf d[q]! d[a]!) m b i j))
 case atStart => exact ⟨m, b, rfl, rfl, Nat.le_refl _, by omega, Nat.le_refl _, (show _ = _ by omega), S0, B0⟩
 case round =>
  clear S0 B0
  obtain ⟨i, j, rfl, rfl, hmi, hij, hjb, HK, S1, HB⟩ := hrel
  by_cases hlt : i < j
  ·have hltz : (i : Int) < (j : Int) := by omega
   obtain ⟨h, hh, hih, hhj⟩ := half_nat i j (by omega) hlt
   have pH : (0 : Int) ≤ (h : Int) := by omega
   have bH : (h : Int) < (d.size : Int) := by omega
   have bA : (a : Int) < (d.size : Int) := by omega
   have lh : ∀ p : SBW enc k w0 blk off d, Sem.run P (loadCellsFrom ⟨blk, off + h * k, none⟩ 0 k #[]) p.w = .ok (enc d[h]!).toArray p.w := fun p => p.h.load RR.out HS.out.symm P h (by omega)
   have la : ∀ p : SBW enc k w0 blk off d, Sem.run P (loadCellsFrom ⟨blk, off + a * k, none⟩ 0 k #[]) p.w = .ok (enc d[a]!).toArray p.w := fun p => p.h.load RR.out HS.out.symm P a (by omega)
   have hcg : ∀ p : SBW enc k w0 blk off d, Calls P g (#[.agg (enc d[h]!).toArray, .agg (enc d[a]!).toArray] ++ cb) p.w fun e w' => e = .returned (.int .i64 (cf d[h]! d[a]!)) ∧ ∃ q : SBW enc k w0 blk off d, w' = q.w := fun p => HC.out.at p rfl _ _
   have HR : Aside (∀ v, ltOf cf d[h]! d[a]! = v → (if v = true then Bin (fun q => ltOf cf d[q]! d[a]!) m b (h + 1) j else Bin (fun q => ltOf cf d[q]! d[a]!) m b i h)) := fun v hv => by
    cases v with
    | true => exact HB.out.right hih hhj hv
    | false => exact HB.out.left hih hhj hv
   obtain ⟨x, hx⟩ : ∃ x, d[h]! = x := ⟨_, rfl⟩
   obtain ⟨y, hy⟩ : ∃ y, d[a]! = y := ⟨_, rfl⟩
   rw [hx] at lh hcg
   rw [hy] at la hcg
   have HX : Aside (d[h]! = x) := hx
   have HY : Aside (d[a]! = y) := hy
   clear hx hy
   by_cases hlv : cf x y < 0
   ·have HL : Aside (ltOf cf d[h]! d[a]! = true) := by show _ = _; rw [HX.out, HY.out]; exact decide_eq_true hlv
    go_wp2_with fail
    haveI : Inhabited (SBW enc k w0 blk off d) := ⟨⟨_, S1.out⟩⟩
    refine wp_region_sb S1.out (by assumption) (by kernel_rfl) ?_
    repeat (quiet_step ((go_at_fn g; exact hcg _)))
    refine wpQuiet_nil ?_
    intro _ hw'
    obtain ⟨p, rfl⟩ := hw'
    go_wp2_with fail
    go_roundg (j - (h + 1) + m)
    case measure => have := HK.out; omega
    case rel => exact ⟨h + 1, j, by go_num, rfl, by omega, by omega, hjb, rfl, p.h, HR.out true HL.out⟩
   ·have HL : Aside (ltOf cf d[h]! d[a]! = false) := by show _ = _; rw [HX.out, HY.out]; exact decide_eq_false hlv
    go_wp2_with fail
    haveI : Inhabited (SBW enc k w0 blk off d) := ⟨⟨_, S1.out⟩⟩
    refine wp_region_sb S1.out (by assumption) (by kernel_rfl) ?_
    repeat (quiet_step ((go_at_fn g; exact hcg _)))
    refine wpQuiet_nil ?_
    intro _ hw'
    obtain ⟨p, rfl⟩ := hw'
    go_wp2_with fail
    go_roundg (h - i + m)
    case measure => have := HK.out; omega
    case rel => exact ⟨i, h, rfl, rfl, hmi, by omega, by omega, rfl, p.h, HR.out false HL.out⟩
  ·have hi : j = i := by omega
   subst hi
   have HD : Aside (MvR (pre ++ (merge (ltOf cf) U V ++ post)) j a d) := HT.out.one_left HO.out HM.out HB.out
   clear HB HK
   go_wp2_with fail
   go_loopg [13] (j - a) (fun kx s13 wr2 => ∃ (q : Nat) (dk : Array α), s13 = .int .i64 q ∧ a ≤ q ∧ q + 1 ≤ j ∧ Aside (kx = j - q) ∧ dk.size = d.size ∧ Aside (SB enc k w0 blk off dk wr2) ∧ Aside (MvR (pre ++ (merge (ltOf cf) U V ++ post)) j q dk))
   case atStart => exact ⟨a, d, rfl, Nat.le_refl _, by omega, rfl, rfl, S1, HD⟩
   case round =>
    clear S1 HD
    obtain ⟨q, dk, rfl, haq, hqj, HK, hds, S1, HD⟩ := hrel
    by_cases hq : q + 1 < j
    ·have hqz : (q : Int) < (j : Int) - 1 := by omega
     have e0 : ((q : Int) + 1).toNat = q + 1 := by omega
     have p0 : (0 : Int) ≤ (q : Int) + 1 := by omega
     have b0 : (q : Int) + 1 < (d.size : Int) := by omega
     have b1 : (q : Int) < (d.size : Int) := by omega
     go_wp2_with fail
     have S2 : Aside (SB enc k w0 blk off (swp dk q (q + 1)) ((wr.drew.setCells blk (off + q * k) (enc dk[q + 1]!)).setCells blk (off + (q + 1) * k) (enc dk[q]!))) := S1.out.swapped RR.out q (q + 1) (by omega) (by omega)
     have la := S1.out.ld1 RR.out (by have := HS.out; omega) P q (by omega)
     have lb := S1.out.ld1 RR.out (by have := HS.out; omega) P (q + 1) (by omega)
     have sa := S1.out.st1 RR.out (by have := HS.out; omega) P q (by omega) dk[q + 1]!
     have sb := S1.out.st2 RR.out (by have := HS.out; omega) P q (q + 1) (by omega) (by omega) dk[q + 1]! dk[q]!
     have na : (enc dk[q]!).length = k := RR.out.hk _
     have nb : (enc dk[q + 1]!).length = k := RR.out.hk _
     generalize enc dk[q]! = cI at S2 la sb na
     generalize enc dk[q + 1]! = cJ at S2 lb sa sb nb
     clear S1
     go_big_region_o
     clear la lb sa sb
     generalize (wr.drew.setCells blk (off + q * k) cJ).setCells blk (off + (q + 1) * k) cI = w2 at S2 ⊢
     go_wp2
     go_roundg (j - (q + 1))
     case measure => have := HK.out; omega
     case rel => exact ⟨q + 1, swp dk q (q + 1), by go_num, by omega, by omega, rfl, by rw [size_swp]; exact hds, S2, HD.out.step hq⟩
    ·have hqz : ¬ (q : Int) < (j : Int) - 1 := by omega
     go_wp2
     refine bodyPost_ret (results_none rfl _ _ _) rfl ?_
     exact ⟨rfl, dk, HD.out.done hq, hds, S1.out⟩
variable {P : Program} {α : Type} [Inhabited α]
theorem symRight_w (L : StLays P) (k : Nat) (aE : ∀ w, (isAgg 37).run P w = .ok true w) (zE : ∀ w, (Go.sizeOf 37).run P w = .ok k w) (enc : α → List Value) (cf : α → α → Int) (g : Nat) (cb : Array Value) (eg : ∀ args w, (callFunc g args).run P w = .ok (.enter g args) w)
  (blk off cap a m b : Nat) (d0 d : Array α) (w0 w : World)
  (R : RowK enc k w0 blk off d0) (hs : d0.size = d.size) (hC : CmpB P g cb enc k cf blk off d.size w0) (O : Stable.Ord (ltOf cf)) (S : SB enc k w0 blk off d w) (ham : a + 1 < m) (hm : b = m + 1) (hb : b ≤ d.size) (hsz : d.size < 4611686018427387904)
  (pre U V post : List α) (T : Two (ltOf cf) a m b pre U V post d) :
  Calls P 168 #[.slice (some ⟨blk, off, none⟩) d.size cap, .int .i64 a, .int .i64 m, .int .i64 b, .func (.func g) #[] cb] w fun e w' => e = .returned (.tuple #[]) ∧ ∃ d', d'.toList = pre ++ (merge (ltOf cf) U V ++ post) ∧ d'.size = d.size ∧ SB enc k w0 blk off d' w' := by
 have mixed := L.mixed; have t3 := L.t3; have a3 := L.a3; have z3 := L.z3; have v3 := L.v3; have t4 := L.t4; have a4 := L.a4; have z4 := L.z4; have v4 := L.v4; have t53 := L.t53; have a53 := L.a53; have z53 := L.z53; have t22 := L.t22; have a22 := L.a22; have z22 := L.z22; have t45 := L.t45
 have FG := L.f34
 have S0 : Aside (SB enc k w0 blk off d w) := S
 have HC : Aside (CmpB P g cb enc k cf blk off d.size w0) := hC
 have HT : Aside (Two (ltOf cf) a m b pre U V post d) := T
 have HO : Aside (Stable.Ord (ltOf cf)) := O
 have B0 : Aside (Bin (fun q => !ltOf cf d[m]! d[q]!) a m a m) := Bin.start (T.mono2 O) (by omega)
 have HM : Aside (b = m + 1) := hm
 have am : a < m := by omega
 have mb : m < b := by omega
 have tm : ((m : Int) - (a : Int) == 1) = false := by rw [beq_eq_false_iff_ne]; omega
 have tm2 : ((b : Int) - (m : Int) == 1) = true := by rw [beq_iff_eq]; omega
 have RR : Aside (RowK enc k w0 blk off d0) := R
 have HS : Aside (d0.size = d.size) := hs
 clear S hC T O hm L hs R
 go_enter FG, Tryz.ntmps168
 go_wp2_with fail
 go_loopg [14, 15] m (fun kx s10 s11 wr => ∃ (i j : Nat), s10 = .int .i64 i ∧ s11 = .int .i64 j ∧ a ≤ i ∧ i ≤ j ∧ j ≤ m ∧ Aside (kx = j - i + a) ∧ Aside (SB enc k w0 blk off d wr) ∧ Aside (Bin (fun q => !ltOf cf d[m]! d[q]!) a m i j))
 case atStart => exact ⟨a, m, rfl, rfl, Nat.le_refl _, by omega, Nat.le_refl _, (show _ = _ by omega), S0, B0⟩
 case round =>
  clear S0 B0
  obtain ⟨i, j, rfl, rfl, hmi, hij, hjb, HK, S1, HB⟩ := hrel
  by_cases hlt : i < j
  ·have hltz : (i : Int) < (j : Int) := by omega
   obtain ⟨h, hh, hih, hhj⟩ := half_nat i j (by omega) hlt
   have pH : (0 : Int) ≤ (h : Int) := by omega
   have bH : (h : Int) < (d.size : Int) := by omega
   have bA : (m : Int) < (d.size : Int) := by omega
   have lh : ∀ p : SBW enc k w0 blk off d, Sem.run P (loadCellsFrom ⟨blk, off + h * k, none⟩ 0 k #[]) p.w = .ok (enc d[h]!).toArray p.w := fun p => p.h.load RR.out HS.out.symm P h (by omega)
   have la : ∀ p : SBW enc k w0 blk off d, Sem.run P (loadCellsFrom ⟨blk, off + m * k, none⟩ 0 k #[]) p.w = .ok (enc d[m]!).toArray p.w := fun p => p.h.load RR.out HS.out.symm P m (by omega)
   have hcg : ∀ p : SBW enc k w0 blk off d, Calls P g (#[.agg (enc d[m]!).toArray, .agg (enc d[h]!).toArray] ++ cb) p.w fun e w' => e = .returned (.int .i64 (cf d[m]! d[h]!)) ∧ ∃ q : SBW enc k w0 blk off d, w' = q.w := fun p => HC.out.at p rfl _ _
   have HR : Aside (∀ v, ltOf cf d[m]! d[h]! = v → (if v = true then Bin (fun q => !ltOf cf d[m]! d[q]!) a m i h else Bin (fun q => !ltOf cf d[m]! d[q]!) a m (h + 1) j)) := fun v hv => by
    cases v with
    | true => exact HB.out.left hih hhj (by simp [hv])
    | false => exact HB.out.right hih hhj (by simp [hv])
   obtain ⟨x, hx⟩ : ∃ x, d[h]! = x := ⟨_, rfl⟩
   obtain ⟨y, hy⟩ : ∃ y, d[m]! = y := ⟨_, rfl⟩
   rw [hx] at lh hcg
   rw [hy] at la hcg
   have HX : Aside (d[h]! = x) := hx
   have HY : Aside (d[m]! = y) := hy
   clear hx hy
   by_cases hlv : cf y x < 0
   ·have HL : Aside (ltOf cf d[m]! d[h]! = true) := by show _ = _; rw [HY.out, HX.out]; exact decide_eq_true hlv
    go_wp2_with fail
    haveI : Inhabited (SBW enc k w0 blk off d) := ⟨⟨_, S1.out⟩⟩
    refine wp_region_sb S1.out (by assumption) (by kernel_rfl) ?_
    repeat (quiet_step ((go_at_fn g; exact hcg _)))
    refine wpQuiet_nil ?_
    intro _ hw'
    obtain ⟨p, rfl⟩ := hw'
    go_wp2_with fail
    go_roundg (h - i + a)
    case measure => have := HK.out; omega
    case rel => exact ⟨i, h, rfl, rfl, hmi, by omega, by omega, rfl, p.h, HR.out true HL.out⟩
   ·have HL : Aside (ltOf cf d[m]! d[h]! = false) := by show _ = _; rw [HY.out, HX.out]; exact decide_eq_false hlv
    have hdn : decide (cf y x < 0) = false := decide_eq_false hlv
    go_wp2_with fail
    haveI : Inhabited (SBW enc k w0 blk off d) := ⟨⟨_, S1.out⟩⟩
    refine wp_region_sb S1.out (by assumption) (by kernel_rfl) ?_
    repeat (quiet_step ((go_at_fn g; exact hcg _)))
    refine wpQuiet_nil ?_
    intro _ hw'
    obtain ⟨p, rfl⟩ := hw'
    go_wp2_with fail
    go_roundg (j - (h + 1) + a)
    case measure => have := HK.out; omega
    case rel => exact ⟨h + 1, j, by go_num, rfl, by omega, by omega, hjb, rfl, p.h, HR.out false HL.out⟩
  ·have hi : j = i := by omega
   subst hi
   have HD : Aside (MvL (pre ++ (merge (ltOf cf) U V ++ post)) j m d) := HT.out.one_right HO.out HM.out HB.out
   clear HB HK
   go_wp2_with fail
   go_loopg [17] (m - j) (fun kx s17 wr2 => ∃ (q : Nat) (dk : Array α), s17 = .int .i64 q ∧ q ≤ m ∧ j ≤ q ∧ Aside (kx = q - j) ∧ dk.size = d.size ∧ Aside (SB enc k w0 blk off dk wr2) ∧ Aside (MvL (pre ++ (merge (ltOf cf) U V ++ post)) j q dk))
   case atStart => exact ⟨m, d, rfl, Nat.le_refl _, by omega, rfl, rfl, S1, HD⟩
   case round =>
    clear S1 HD
    obtain ⟨q, dk, rfl, haq, hqj, HK, hds, S1, HD⟩ := hrel
    by_cases hq : j < q
    ·obtain ⟨q, rfl⟩ : ∃ r, q = r + 1 := ⟨q - 1, by omega⟩
     have hqz : (j : Int) < (q : Int) + 1 := by omega
     have e0 : ((q : Int) + 1).toNat = q + 1 := by omega
     have p0 : (0 : Int) ≤ (q : Int) + 1 := by omega
     have b0 : (q : Int) + 1 < (d.size : Int) := by omega
     have b1 : (q : Int) < (d.size : Int) := by omega
     have hwp : IntKind.i64.wrap (q : Int) = (q : Int) := by rw [IntKind.wrap_i64]; omega
     go_wp2_with fail
     have S2 : Aside (SB enc k w0 blk off (swp dk (q + 1) q) ((wr.drew.setCells blk (off + (q + 1) * k) (enc dk[q]!)).setCells blk (off + q * k) (enc dk[q + 1]!))) := S1.out.swapped RR.out (q + 1) q (by omega) (by omega)
     have la := S1.out.ld1 RR.out (by have := HS.out; omega) P (q + 1) (by omega)
     have lb := S1.out.ld1 RR.out (by have := HS.out; omega) P q (by omega)
     have sa := S1.out.st1 RR.out (by have := HS.out; omega) P (q + 1) (by omega) dk[q]!
     have sb := S1.out.st2 RR.out (by have := HS.out; omega) P (q + 1) q (by omega) (by omega) dk[q]! dk[q + 1]!
     have na : (enc dk[q + 1]!).length = k := RR.out.hk _
     have nb : (enc dk[q]!).length = k := RR.out.hk _
     generalize enc dk[q + 1]! = cI at S2 la sb na
     generalize enc dk[q]! = cJ at S2 lb sa sb nb
     clear S1
     go_big_region_o
     clear la lb sa sb
     generalize (wr.drew.setCells blk (off + (q + 1) * k) cJ).setCells blk (off + q * k) cI = w2 at S2 ⊢
     go_wp2
     go_roundg (q - j)
     case measure => have := HK.out; omega
     case rel => exact ⟨q, swp dk (q + 1) q, by go_num, by omega, by omega, rfl, by rw [size_swp]; exact hds, S2, HD.out.step hq⟩
    ·have hqz : ¬ (j : Int) < (q : Int) := by omega
     go_wp2
     refine bodyPost_ret (results_none rfl _ _ _) rfl ?_
     exact ⟨rfl, dk, HD.out.done hq, hds, S1.out⟩
variable {P : Program} {α : Type} [Inhabited α]
theorem mid_way (a m b : Nat) (am : a < m) (mb : m < b) : ∃ mid lo hi : Nat, ((a : Int) + (b : Int)) / 2 = (mid : Int) ∧ Mid a m b mid lo hi ∧ ((mid < m ∧ (mid : Int) + (m : Int) - (b : Int) = (lo : Int) ∧ hi = mid) ∨ (¬ mid < m ∧ lo = a ∧ hi = m)) := by
 by_cases h : (a + b) / 2 < m
 ·exact ⟨(a + b) / 2, (a + b) / 2 + m - b, (a + b) / 2, by omega, ⟨am, mb, rfl, .inl ⟨h, by omega, rfl⟩⟩, .inl ⟨h, by omega, rfl⟩⟩
 ·exact ⟨(a + b) / 2, a, m, by omega, ⟨am, mb, rfl, .inr ⟨by omega, rfl, rfl⟩⟩, .inr ⟨h, rfl, rfl⟩⟩
/-- What a call of symMerge does. -/
def SymDoes (P : Program) (enc : α → List Value) (k : Nat) (lt : α → α → Bool) (g : Nat) (cb : Array Value) (blk off cap a m b : Nat) (d : Array α) (w0 w : World) : Prop :=
 ∀ pre U V post : List α, Two lt a m b pre U V post d → Calls P 168 #[.slice (some ⟨blk, off, none⟩) d.size cap, .int .i64 a, .int .i64 m, .int .i64 b, .func (.func g) #[] cb] w fun e w' => e = .returned (.tuple #[]) ∧ ∃ d', d'.toList = pre ++ (merge lt U V ++ post) ∧ d'.size = d.size ∧ SB enc k w0 blk off d' w'
theorem symMid_w (L : StLays P) (k : Nat) (aE : ∀ w, (isAgg 37).run P w = .ok true w) (zE : ∀ w, (Go.sizeOf 37).run P w = .ok k w) (enc : α → List Value) (cf : α → α → Int) (g : Nat) (cb : Array Value) (eg : ∀ args w, (callFunc g args).run P w = .ok (.enter g args) w)
  (blk off cap a m b : Nat) (d0 d : Array α) (w0 w : World)
  (R : RowK enc k w0 blk off d0) (hs : d0.size = d.size) (hC : CmpB P g cb enc k cf blk off d.size w0) (O : Stable.Ord (ltOf cf)) (S : SB enc k w0 blk off d w) (ham : a + 1 < m) (hmb : m + 1 < b) (hb : b ≤ d.size) (hsz : d.size < 4611686018427387904)
  (pre U V post : List α) (T : Two (ltOf cf) a m b pre U V post d)
  (IH : ∀ (a' m' b' : Nat) (d' : Array α) (w' : World), b' - a' < b - a → d'.size = d.size → a' < m' → m' < b' → b' ≤ d.size → SB enc k w0 blk off d' w' → SymDoes P enc k (ltOf cf) g cb blk off cap a' m' b' d' w0 w') :
  Calls P 168 #[.slice (some ⟨blk, off, none⟩) d.size cap, .int .i64 a, .int .i64 m, .int .i64 b, .func (.func g) #[] cb] w fun e w' => e = .returned (.tuple #[]) ∧ ∃ d', d'.toList = pre ++ (merge (ltOf cf) U V ++ post) ∧ d'.size = d.size ∧ SB enc k w0 blk off d' w' := by
 obtain ⟨mid, lo, hi, hmid, M, way⟩ := mid_way a m b (by omega) (by omega)
 obtain ⟨f1, f2, f3, f4, f5, f6, f7⟩ := M.facts
 have B0 : Aside (Bin (fun c => !ltOf cf d[mid + m - 1 - c]! d[c]!) lo hi lo hi) := Bin.start (T.mono3 O f1 f3 f7) f2
 have F7 := aside (f7)
 have mixed := L.mixed; have t3 := L.t3; have a3 := L.a3; have z3 := L.z3; have v3 := L.v3; have t4 := L.t4; have a4 := L.a4; have z4 := L.z4; have v4 := L.v4; have t53 := L.t53; have a53 := L.a53; have z53 := L.z53; have t22 := L.t22; have a22 := L.a22; have z22 := L.z22; have t45 := L.t45
 have FG := L.f34
 have e34 := L.e34
 have e36 := L.e36
 have S0 : Aside (SB enc k w0 blk off d w) := S
 have HC : Aside (CmpB P g cb enc k cf blk off d.size w0) := hC
 have HT : Aside (Two (ltOf cf) a m b pre U V post d) := T
 have HO : Aside (Stable.Ord (ltOf cf)) := O
 have HM : Aside (Mid a m b mid lo hi) := M
 have HI := aside (IH)
 have tm : ((m : Int) - (a : Int) == 1) = false := by rw [beq_eq_false_iff_ne]; omega
 have tm2 : ((b : Int) - (m : Int) == 1) = false := by rw [beq_eq_false_iff_ne]; omega
 have RR : Aside (RowK enc k w0 blk off d0) := R
 have HS : Aside (d0.size = d.size) := hs
 have LL : Aside (StLays P) := L
 clear S hC T O M L hs R IH f7
 go_enter FG, Tryz.ntmps168
 have WAY := aside (way)
 have pp : ∃ pp : Nat, (mid : Int) + (m : Int) - 1 = (pp : Int) ∧ pp = mid + m - 1 := ⟨mid + m - 1, by omega, rfl⟩
 obtain ⟨pp, epp, hpp⟩ := pp
 have HPP := aside (hpp)
 have hpl : pp < d.size + d.size := by omega
 clear way hpp
 go_upto_if 140 with fail
 go_cut [20, 21] from 138 to 146 (fun s20 s21 wx => s20 = .int .i64 lo ∧ s21 = .int .i64 hi ∧ wx = w)
 case first =>
  rcases WAY.out with ⟨w1, eLo, rfl⟩ | ⟨w1, rfl, rfl⟩
  ·go_wp2_with fail
   go_meet
   exact ⟨rfl, rfl, rfl⟩
  ·go_wp2_with fail
   go_meet
   exact ⟨rfl, rfl, rfl⟩
 case rest =>
  obtain ⟨rfl, rfl, rfl⟩ := hcut
  clear WAY
  go_wp2_with fail
  go_loopg [20, 21] (hi - lo) (fun kx s20 s21 wr => ∃ (i j : Nat), s20 = .int .i64 i ∧ s21 = .int .i64 j ∧ lo ≤ i ∧ i ≤ j ∧ j ≤ hi ∧ Aside (kx = j - i) ∧ Aside (SB enc k w0 blk off d wr) ∧ Aside (Bin (fun c => !ltOf cf d[mid + m - 1 - c]! d[c]!) lo hi i j))
  case atStart => exact ⟨lo, hi, rfl, rfl, Nat.le_refl _, f2, Nat.le_refl _, rfl, S0, B0⟩
  case round =>
   clear S0 B0
   obtain ⟨i, j, rfl, rfl, hmi, hij, hjb, HK, S1, HB⟩ := hrel
   by_cases hlt : i < j
   ·have hltz : (i : Int) < (j : Int) := by omega
    obtain ⟨c, hh, hih, hhj⟩ := half_nat i j (by omega) hlt
    obtain ⟨g1, g2, g3⟩ := F7.out c (by omega) (by omega)
    have q1 : c ≤ pp := by have := HPP.out; omega
    have q2 : pp - c < b := by have := HPP.out; omega
    have q3 : mid + m - 1 - c = pp - c := by have := HPP.out; omega
    have Q3 := aside (q3)
    clear g1 g2 g3 q3
    have e0 : ((pp : Int) - (c : Int)).toNat = pp - c := by omega
    have p0 : (0 : Int) ≤ (pp : Int) - (c : Int) := by omega
    have rP : IntKind.i64.wrap ((pp : Int) - (c : Int)) = (pp : Int) - (c : Int) := by rw [IntKind.wrap_i64]; omega
    have b0 : (pp : Int) - (c : Int) < (d.size : Int) := by omega
    have pH : (0 : Int) ≤ (c : Int) := by omega
    have bH : (c : Int) < (d.size : Int) := by omega
    have lh : ∀ p : SBW enc k w0 blk off d, Sem.run P (loadCellsFrom ⟨blk, off + (pp - c) * k, none⟩ 0 k #[]) p.w = .ok (enc d[pp - c]!).toArray p.w := fun p => p.h.load RR.out HS.out.symm P (pp - c) (by omega)
    have la : ∀ p : SBW enc k w0 blk off d, Sem.run P (loadCellsFrom ⟨blk, off + c * k, none⟩ 0 k #[]) p.w = .ok (enc d[c]!).toArray p.w := fun p => p.h.load RR.out HS.out.symm P c (by omega)
    have hcg : ∀ p : SBW enc k w0 blk off d, Calls P g (#[.agg (enc d[pp - c]!).toArray, .agg (enc d[c]!).toArray] ++ cb) p.w fun e w' => e = .returned (.int .i64 (cf d[pp - c]! d[c]!)) ∧ ∃ q : SBW enc k w0 blk off d, w' = q.w := fun p => HC.out.at p rfl _ _
    have HR : Aside (∀ v, ltOf cf d[pp - c]! d[c]! = v → (if v = true then Bin (fun c => !ltOf cf d[mid + m - 1 - c]! d[c]!) lo hi i c else Bin (fun c => !ltOf cf d[mid + m - 1 - c]! d[c]!) lo hi (c + 1) j)) := fun v hv => by
     cases v with
     | true => exact HB.out.left hih hhj (by simp only [Q3.out]; simp [hv])
     | false => exact HB.out.right hih hhj (by simp only [Q3.out]; simp [hv])
    obtain ⟨x, hx⟩ : ∃ x, d[pp - c]! = x := ⟨_, rfl⟩
    obtain ⟨y, hy⟩ : ∃ y, d[c]! = y := ⟨_, rfl⟩
    rw [hx] at lh hcg
    rw [hy] at la hcg
    have HX : Aside (d[pp - c]! = x) := hx
    have HY : Aside (d[c]! = y) := hy
    clear hx hy
    by_cases hlv : cf x y < 0
    ·have HL : Aside (ltOf cf d[pp - c]! d[c]! = true) := by show _ = _; rw [HX.out, HY.out]; exact decide_eq_true hlv
     go_wp2_with fail
     haveI : Inhabited (SBW enc k w0 blk off d) := ⟨⟨_, S1.out⟩⟩
     refine wp_region_sb S1.out (by assumption) (by kernel_rfl) ?_
     repeat (quiet_step ((go_at_fn g; exact hcg _)))
     refine wpQuiet_nil ?_
     intro _ hw'
     obtain ⟨p, rfl⟩ := hw'
     go_wp2_with fail
     go_roundg (c - i)
     case measure => have := HK.out; omega
     case rel => exact ⟨i, c, rfl, rfl, hmi, by omega, by omega, rfl, p.h, HR.out true HL.out⟩
    ·have HL : Aside (ltOf cf d[pp - c]! d[c]! = false) := by show _ = _; rw [HX.out, HY.out]; exact decide_eq_false hlv
     have hdn : decide (cf x y < 0) = false := decide_eq_false hlv
     go_wp2_with fail
     haveI : Inhabited (SBW enc k w0 blk off d) := ⟨⟨_, S1.out⟩⟩
     refine wp_region_sb S1.out (by assumption) (by kernel_rfl) ?_
     repeat (quiet_step ((go_at_fn g; exact hcg _)))
     refine wpQuiet_nil ?_
     intro _ hw'
     obtain ⟨p, rfl⟩ := hw'
     go_wp2_with fail
     go_roundg (j - (c + 1))
     case measure => have := HK.out; omega
     case rel => exact ⟨c + 1, j, by go_num, rfl, by omega, by omega, hjb, rfl, p.h, HR.out false HL.out⟩
   ·have hi' : j = i := by omega
    subst hi'
    have hP : Parts (ltOf cf) a m b mid j (mid + m - j) U V := HT.out.parts HO.out HM.out HB.out
    have HP : Aside (Parts (ltOf cf) a m b mid j (mid + m - j) U V) := hP
    have eE : ∃ e : Nat, (mid : Int) + (m : Int) - (j : Int) = (e : Int) ∧ mid + m - j = e := ⟨mid + m - j, by omega, rfl⟩
    obtain ⟨e, eE, he⟩ := eE
    rw [he] at hP HP
    have k1 := hP.sa; have k2 := hP.sm; have k3 := hP.smid; have k4 := hP.me; have k5 := hP.eb; have k6 := hP.mide
    clear HB HK he hP F7
    go_upto_region 39 with fail
    go_cut [185] from 178 to 184 (fun s wx => s = .bool (decide (j < m) && decide (m < e)) ∧ wx = wr)
    case first =>
     by_cases h1 : j < m
     ·go_wp2_with fail
      go_meet
      exact ⟨by simp [h1], rfl⟩
     ·go_wp2_with fail
      go_meet
      exact ⟨by simp [h1], rfl⟩
    case rest =>
     obtain ⟨rfl, rfl⟩ := hcut
     go_upto_if 185 with fail
     go_cut [] from 185 to 191 (fun wx => ∃ d1 : Array α, Aside (St1 U V pre post a m j e d.size d1) ∧ Aside (SB enc k w0 blk off d1 wx))
     case first =>
      by_cases h1 : j < m
      ·by_cases h2 : m < e
       ·have hc := rotate_w LL.out k aE zE enc g cb blk off cap j m e d0 d w0 _ RR.out HS.out S1.out h1 h2 (by omega) hsz _ (HP.out.left HT.out.la HT.out.list)
        have HC2 := aside (hc)
        clear hc
        go_wp2_with (go_at_fn 177; refine HC2.out.mono ?_; rintro e1 w1 ⟨rfl, d1, hd1, hd2, hd3⟩)
        go_meet
        exact ⟨d1, ⟨hd1, hd2⟩, hd3⟩
       ·go_wp2_with fail
        go_meet
        exact ⟨d, HP.out.st1_none HT.out.list rfl (fun h => h2 h.2), S1⟩
      ·go_wp2_with fail
       go_meet
       exact ⟨d, HP.out.st1_none HT.out.list rfl (fun h => h1 h.1), S1⟩
     case rest =>
      clear S1
      obtain ⟨d1, HD1, S1⟩ := hcut
      go_upto_region 41 with fail
      go_cut [199] from 192 to 198 (fun s wx => s = .bool (decide (a < j) && decide (j < mid)) ∧ wx = wc)
      case first =>
       by_cases h1 : a < j
       ·go_wp2_with fail
        go_meet
        exact ⟨by simp [h1], rfl⟩
       ·go_wp2_with fail
        go_meet
        exact ⟨by simp [h1], rfl⟩
      case rest =>
       obtain ⟨rfl, rfl⟩ := hcut
       go_upto_if 199 with fail
       go_cut [] from 199 to 205 (fun wx => ∃ d2 : Array α, Aside (St2 (ltOf cf) U V pre post a m j e d.size d2) ∧ Aside (SB enc k w0 blk off d2 wx))
       case first =>
        by_cases h1 : a < j
        ·by_cases h2 : j < mid
         ·have hc := HI.out a j mid d1 _ (by omega) HD1.out.2 h1 h2 (by omega) S1.out _ _ _ _ (HD1.out.two HP.out HT.out.la)
          rw [HD1.out.2] at hc
          have HC2 := aside (hc)
          clear hc
          go_wp2_with (go_at_fn 168; refine HC2.out.mono ?_; rintro e1 w1 ⟨rfl, d2, hd1, hd2, hd3⟩)
          go_meet
          exact ⟨d2, St2.of hd1 hd2, hd3⟩
         ·go_wp2_with fail
          go_meet
          exact ⟨d1, HD1.out.none HP.out (fun h => h2 h.2), S1⟩
        ·go_wp2_with fail
         go_meet
         exact ⟨d1, HD1.out.none HP.out (fun h => h1 h.1), S1⟩
       case rest =>
        clear S1 HD1
        obtain ⟨d2, HD2, S2⟩ := hcut
        by_cases h1 : mid < e
        ·by_cases h2 : e < b
         ·have hc := HI.out mid e b d2 _ (by omega) HD2.out.2 h1 h2 (by omega) S2.out _ _ _ _ (HD2.out.two HP.out HT.out.la)
          rw [HD2.out.2] at hc
          have HC2 := aside (hc)
          clear hc
          go_wp2_with (go_at_fn 168; refine HC2.out.mono ?_; rintro e1 w1 ⟨rfl, d3, hd1, hd2, hd3⟩)
          go_end0
          have h3 := St3.of (post := post) (n := d.size) HP.out hd1 hd2
          exact ⟨rfl, d3, h3.1, h3.2, hd3⟩
         ·go_wp2_with fail
          go_end0
          have h3 := HD2.out.none HP.out (fun h => h2 h.2)
          exact ⟨rfl, d2, h3.1, h3.2, S2.out⟩
        ·go_wp2_with fail
         go_end0
         have h3 := HD2.out.none HP.out (fun h => h1 h.1)
         exact ⟨rfl, d2, h3.1, h3.2, S2.out⟩
/-- Two sorted neighbours in one. -/
theorem symMerge_w (L : StLays P) (k : Nat) (aE : ∀ w, (isAgg 37).run P w = .ok true w) (zE : ∀ w, (Go.sizeOf 37).run P w = .ok k w) (enc : α → List Value) (cf : α → α → Int) (g : Nat) (cb : Array Value) (eg : ∀ args w, (callFunc g args).run P w = .ok (.enter g args) w)
  (blk off cap n : Nat) (d0 : Array α) (w0 : World) (R : RowK enc k w0 blk off d0) (hs : d0.size = n) (hC : CmpB P g cb enc k cf blk off n w0) (O : Stable.Ord (ltOf cf)) (hsz : n < 4611686018427387904) :
  ∀ (q a m b : Nat) (d : Array α) (w : World), b - a ≤ q → d.size = n → a < m → m < b → b ≤ n → SB enc k w0 blk off d w → SymDoes P enc k (ltOf cf) g cb blk off cap a m b d w0 w
 | 0, a, m, b, d, w, hq, _, h1, h2, _, _ => by omega
 | q + 1, a, m, b, d, w, hq, hd, h1, h2, hb, S => by
  subst hd
  intro pre U V post T
  by_cases c1 : m = a + 1
  ·exact symLeft_w L k aE zE enc cf g cb eg blk off cap a m b d0 d w0 w R hs hC O S c1 h2 hb hsz pre U V post T
  ·by_cases c2 : b = m + 1
   ·exact symRight_w L k aE zE enc cf g cb eg blk off cap a m b d0 d w0 w R hs hC O S (by omega) c2 hb hsz pre U V post T
   ·exact symMid_w L k aE zE enc cf g cb eg blk off cap a m b d0 d w0 w R hs hC O S (by omega) (by omega) hb hsz pre U V post T
     (fun a' m' b' d' w' hlt hd' x1 x2 x3 S' => symMerge_w L k aE zE enc cf g cb eg blk off cap _ d0 w0 R hs hC O hsz q a' m' b' d' w' (by omega) hd' x1 x2 (by omega) S')
variable {P : Program} {α : Type} [Inhabited α]
theorem insertion_w (L : StLays P) (k : Nat) (aE : ∀ w, (isAgg 37).run P w = .ok true w) (zE : ∀ w, (Go.sizeOf 37).run P w = .ok k w) (enc : α → List Value) (cf : α → α → Int) (g : Nat) (cb : Array Value) (eg : ∀ args w, (callFunc g args).run P w = .ok (.enter g args) w)
  (blk off cap a b n : Nat) (d0 d : Array α) (w0 w : World)
  (R : RowK enc k w0 blk off d0) (hs : d0.size = n) (hn : d.size = n) (hC : CmpB P g cb enc k cf blk off n w0) (O : Stable.Ord (ltOf cf)) (S : SB enc k w0 blk off d w) (hsz : n < 4611686018427387904)
  (pre seg post : List α) (T : d.toList = pre ++ (seg ++ post)) (la : pre.length = a) (lb : seg.length + a = b) :
  Calls P 167 #[.slice (some ⟨blk, off, none⟩) n cap, .int .i64 a, .int .i64 b, .func (.func g) #[] cb] w fun e w' => e = .returned (.tuple #[]) ∧ ∃ d', d'.toList = pre ++ (isort (ltOf cf) seg ++ post) ∧ d'.size = n ∧ SB enc k w0 blk off d' w' := by
 have hbn : b ≤ n := by
  have h1 : d.toList.length = n := by rw [Array.length_toList]; exact hn
  rw [T] at h1; simp at h1; omega
 have mixed := L.mixed; have t3 := L.t3; have a3 := L.a3; have z3 := L.z3; have v3 := L.v3; have t4 := L.t4; have a4 := L.a4; have z4 := L.z4; have v4 := L.v4; have t22 := L.t22; have a22 := L.a22; have z22 := L.z22; have t45 := L.t45
 have FG := L.f33
 have HC : Aside (CmpB P g cb enc k cf blk off n w0) := hC
 have HO : Aside (Stable.Ord (ltOf cf)) := O
 have RR : Aside (RowK enc k w0 blk off d0) := R
 have HS : Aside (d0.size = n) := hs
 have S0 : Aside (SB enc k w0 blk off d w) := S
 have T0 : Aside (Outer (ltOf cf) pre seg post a (a + 1) d) := Outer.start T
 have LA : Aside (pre.length = a) := la
 have LB : Aside (seg.length + a = b) := lb
 have hab : a ≤ b := by omega
 have HN : Aside (d.size = n) := hn
 clear hC O R hs S T la lb L hn
 go_enter FG, Tryz.ntmps167
 go_wp2_with fail
 go_loopg [8] (b - a) (fun g1 vi wr => ∃ (i : Nat) (dk : Array α), vi = .int .i64 i ∧ a < i ∧ i ≤ b + 1 ∧ b + 1 - i ≤ g1 + 1 ∧ Aside (dk.size = n) ∧ Aside (SB enc k w0 blk off dk wr) ∧ Aside (Outer (ltOf cf) pre seg post a i dk))
 case atStart => exact ⟨a + 1, d, by go_num, by omega, by omega, by omega, HN, S0, T0⟩
 case round =>
  clear S0 T0 HN
  obtain ⟨i, dk, rfl, hai, hib, hg1, HN, S1, HT⟩ := hrel
  by_cases hlt : i < b
  ·have hltz : (i : Int) < (b : Int) := by omega
   obtain ⟨xi, hIns, hOut⟩ := HT.out.next hai (by have := LB.out; omega)
   have HI := aside hIns
   have HOU := aside hOut
   clear hIns hOut HT
   obtain ⟨wo, hwo⟩ : ∃ wo : World, wo = wr := ⟨_, rfl⟩
   subst hwo
   go_wp2_with fail
   go_loopg [9] i (fun g2 vj wr2 => ∃ (j : Nat) (dj : Array α), vj = .int .i64 j ∧ a ≤ j ∧ j ≤ i ∧ j ≤ g2 ∧ Aside (dj.size = n) ∧ Aside (SB enc k w0 blk off dj wr2) ∧ Aside (Ins (ltOf cf) pre (isort (ltOf cf) (seg.take (i - a))) (seg.drop (i + 1 - a) ++ post) xi a j dj))
   case atStart => exact ⟨i, dk, rfl, by omega, Nat.le_refl _, Nat.le_refl _, HN, S1, HI⟩
   case round =>
    clear HN S1 HI
    obtain ⟨j, dj, rfl, haj, hji, hg2, HN, S1, HI⟩ := hrel
    have out : (j ≤ a ∨ ltOf cf dj[j]! dj[j - 1]! = false) → Outer (ltOf cf) pre seg post a (i + 1) dj := fun hst => HOU.out dj (HI.out.done HO.out LA.out (isort_sorted HO.out _) hst)
    have OUT := aside out
    clear out
    by_cases hja : a < j
    ·have hjaz : (a : Int) < (j : Int) := by omega
     obtain ⟨jp, rfl⟩ : ∃ jp, j = jp + 1 := ⟨j - 1, by omega⟩
     have hwp : IntKind.i64.wrap (jp : Int) = (jp : Int) := by rw [IntKind.wrap_i64]; omega
     have jz : (jp : Int) + 1 < (n : Int) := by omega
     have jz1 : (jp : Int) < (n : Int) := by omega
     have hjaz' : (a : Int) < (jp : Int) + 1 := by omega
     have p0 : (0 : Int) ≤ (jp : Int) + 1 := by omega
     have e0 : ((jp : Int) + 1).toNat = jp + 1 := by omega
     have hsd : dj.size = d0.size := by rw [HN.out, HS.out]
     have lj : ∀ p : SBW enc k w0 blk off dj, Sem.run P (loadCellsFrom ⟨blk, off + (jp + 1) * k, none⟩ 0 k #[]) p.w = .ok (enc dj[jp + 1]!).toArray p.w := fun p => p.h.load RR.out hsd P (jp + 1) (by have := HN.out; omega)
     have lp : ∀ p : SBW enc k w0 blk off dj, Sem.run P (loadCellsFrom ⟨blk, off + jp * k, none⟩ 0 k #[]) p.w = .ok (enc dj[jp]!).toArray p.w := fun p => p.h.load RR.out hsd P jp (by have := HN.out; omega)
     have hcg : ∀ p : SBW enc k w0 blk off dj, Calls P g (#[.agg (enc dj[jp + 1]!).toArray, .agg (enc dj[jp]!).toArray] ++ cb) p.w fun e w' => e = .returned (.int .i64 (cf dj[jp + 1]! dj[jp]!)) ∧ ∃ q : SBW enc k w0 blk off dj, w' = q.w := fun p => HC.out.at p HN.out _ _
     have HSD := aside hsd
     clear hsd
     obtain ⟨x, hx⟩ : ∃ x, dj[jp + 1]! = x := ⟨_, rfl⟩
     obtain ⟨y, hy⟩ : ∃ y, dj[jp]! = y := ⟨_, rfl⟩
     rw [hx] at lj hcg
     rw [hy] at lp hcg
     have HX := aside hx
     have HY := aside hy
     clear hx hy
     by_cases hlv : cf x y < 0
     ·have HL : Aside (ltOf cf dj[jp + 1]! dj[jp]! = true) := by show _ = _; rw [HX.out, HY.out]; exact decide_eq_true hlv
      go_wp2_with fail
      haveI : Inhabited (SBW enc k w0 blk off dj) := ⟨⟨_, S1.out⟩⟩
      refine wp_region_sb S1.out (by assumption) (by kernel_rfl) ?_
      repeat (quiet_step ((go_at_fn g; exact hcg _)))
      refine wpQuiet_nil ?_
      intro _ hw'
      obtain ⟨p, rfl⟩ := hw'
      go_wp2_with fail
      have S2 : Aside (SB enc k w0 blk off (swp dj (jp + 1) jp) ((p.w.drew.setCells blk (off + (jp + 1) * k) (enc dj[jp]!)).setCells blk (off + jp * k) (enc dj[jp + 1]!))) := p.h.swapped RR.out (jp + 1) jp (by have := HN.out; omega) (by have := HN.out; omega)
      have la := p.h.ld1 RR.out HSD.out P (jp + 1) (by have := HN.out; omega)
      have lb := p.h.ld1 RR.out HSD.out P jp (by have := HN.out; omega)
      have sa := p.h.st1 RR.out HSD.out P (jp + 1) (by have := HN.out; omega) dj[jp]!
      have sb := p.h.st2 RR.out HSD.out P (jp + 1) jp (by have := HN.out; omega) (by have := HN.out; omega) dj[jp]! dj[jp + 1]!
      have na : (enc dj[jp + 1]!).length = k := RR.out.hk _
      have nb : (enc dj[jp]!).length = k := RR.out.hk _
      generalize enc dj[jp + 1]! = cI at S2 la sb na
      generalize enc dj[jp]! = cJ at S2 lb sa sb nb
      clear S1 lj lp hcg
      generalize p.w = wp at S2 la lb sa sb ⊢
      clear p
      go_big_region_o
      clear la lb sa sb
      generalize (wp.drew.setCells blk (off + (jp + 1) * k) cJ).setCells blk (off + jp * k) cI = w2 at S2 ⊢
      go_wp2
      go_roundg jp
      case measure => omega
      case rel => exact ⟨jp, swp dj (jp + 1) jp, by first | rfl | go_num | (congr 1; omega), by omega, by omega, Nat.le_refl _, (show _ = _ by rw [size_swp]; exact HN.out), S2, HI.out.step LA.out hja HL.out⟩
     ·have HL : Aside (ltOf cf dj[jp + 1]! dj[jp]! = false) := by show _ = _; rw [HX.out, HY.out]; exact decide_eq_false hlv
      have hdn : decide (cf x y < 0) = false := decide_eq_false hlv
      go_wp2_with fail
      haveI : Inhabited (SBW enc k w0 blk off dj) := ⟨⟨_, S1.out⟩⟩
      refine wp_region_sb S1.out (by assumption) (by kernel_rfl) ?_
      repeat (quiet_step ((go_at_fn g; exact hcg _)))
      refine wpQuiet_nil ?_
      intro _ hw'
      obtain ⟨p, rfl⟩ := hw'
      go_wp2
      go_roundg (b - (i + 1))
      case measure => omega
      case rel => exact ⟨i + 1, dj, by go_num, by omega, by omega, by omega, HN, p.h, OUT.out (.inr (by simpa using HL.out))⟩
    ·have hjaz : decide ((j : Int) > (a : Int)) = false := decide_eq_false (by omega)
     have hjaz' : ¬ (a : Int) < (j : Int) := by omega
     have S2 : Aside (SB enc k w0 blk off dj wr.drew) := S1.out.drew
     clear S1
     go_wp2_with fail
     go_big_region_o
     all_goals go_wp2
     go_roundg (b - (i + 1))
     case measure => omega
     case rel => exact ⟨i + 1, dj, by go_num, by omega, by omega, by omega, HN, S2, OUT.out (.inl (by omega))⟩
  ·have hltz : ¬ (i : Int) < (b : Int) := by omega
   go_wp2
   go_end0
   exact ⟨rfl, dk, HT.out.done (by have := LB.out; omega), HN.out, S1.out⟩
variable {P : Program} {α : Type} [Inhabited α]
theorem stable_w (L : StLays P) (k : Nat) (aE : ∀ w, (isAgg 37).run P w = .ok true w) (zE : ∀ w, (Go.sizeOf 37).run P w = .ok k w) (enc : α → List Value) (cf : α → α → Int) (g : Nat) (cb : Array Value) (eg : ∀ args w, (callFunc g args).run P w = .ok (.enter g args) w)
  (blk off cap n : Nat) (d0 : Array α) (w0 : World)
  (R : RowK enc k w0 blk off d0) (hs : d0.size = n) (hC : CmpB P g cb enc k cf blk off n w0) (O : Stable.Ord (ltOf cf)) (hsz : n < 1152921504606846976) :
  Calls P 146 #[.slice (some ⟨blk, off, none⟩) n cap, .int .i64 n, .func (.func g) #[] cb] w0 fun e w' => e = .returned (.tuple #[]) ∧ ∃ d' : Array α, d'.toList = isort (ltOf cf) d0.toList ∧ d'.size = n ∧ SB enc k w0 blk off d' w' := by
 have mixed := L.mixed; have t3 := L.t3; have a3 := L.a3; have z3 := L.z3; have v3 := L.v3; have t4 := L.t4; have a4 := L.a4; have z4 := L.z4; have v4 := L.v4; have t22 := L.t22; have a22 := L.a22; have z22 := L.z22; have t45 := L.t45
 have FG := L.f30
 have e33 := L.e33
 have e34 := L.e34
 have hl : d0.toList.length = n := by rw [Array.length_toList]; exact hs
 have INS : Aside (∀ (a b : Nat) (d : Array α) (w : World) (pre seg post : List α), d.size = n → SB enc k w0 blk off d w → d.toList = pre ++ (seg ++ post) → pre.length = a → seg.length + a = b →
  Calls P 167 #[.slice (some ⟨blk, off, none⟩) n cap, .int .i64 a, .int .i64 b, .func (.func g) #[] cb] w fun e w' => e = .returned (.tuple #[]) ∧ ∃ d', d'.toList = pre ++ (isort (ltOf cf) seg ++ post) ∧ d'.size = n ∧ SB enc k w0 blk off d' w') :=
  fun a b d w pre seg post hn S T la lb => insertion_w L k aE zE enc cf g cb eg blk off cap a b n d0 d w0 w R hs hn hC O S (by omega) pre seg post T la lb
 have SYM : Aside (∀ (a m b : Nat) (d : Array α) (w : World) (pre U V post : List α), d.size = n → a < m → m < b → b ≤ n → SB enc k w0 blk off d w → Two (ltOf cf) a m b pre U V post d →
  Calls P 168 #[.slice (some ⟨blk, off, none⟩) n cap, .int .i64 a, .int .i64 m, .int .i64 b, .func (.func g) #[] cb] w fun e w' => e = .returned (.tuple #[]) ∧ ∃ d', d'.toList = pre ++ (merge (ltOf cf) U V ++ post) ∧ d'.size = n ∧ SB enc k w0 blk off d' w') :=
  fun a m b d w pre U V post hn h1 h2 h3 S T => by
   have := symMerge_w L k aE zE enc cf g cb eg blk off cap n d0 w0 R hs hC O (by omega) (b - a) a m b d w (Nat.le_refl _) hn h1 h2 h3 S pre U V post T
   rw [hn] at this
   exact this
 have S0 : Aside (SB enc k w0 blk off d0 w0) := SB.start R.hH
 have P0 : Aside (Pass0 (ltOf cf) 20 d0.toList 0 d0) := Pass0.start 20 d0
 have HO := aside O
 have HL := aside hl
 have HS0 := aside hs
 clear hC O R hs L hl eg
 go_enter FG, Tryz.ntmps146
 go_wp2_with fail
 go_loopg [7, 8] n (fun kx s7 s8 wr => ∃ (a : Nat) (d : Array α), s7 = .int .i64 a ∧ s8 = .int .i64 ((a + 20 : Nat) : Int) ∧ a ≤ n ∧ Aside (kx = n - a) ∧ Aside (d.size = n) ∧ Aside (SB enc k w0 blk off d wr) ∧ Aside (Pass0 (ltOf cf) 20 d0.toList a d))
 case atStart => exact ⟨0, d0, rfl, rfl, Nat.zero_le _, rfl, HS0, S0, P0⟩
 case round =>
  clear S0 P0 HS0
  obtain ⟨a, d, rfl, rfl, han, HK, HN, S1, HP⟩ := hrel
  by_cases hb : a + 20 ≤ n
  ·obtain ⟨pre, seg, post, hd, hpre, hseg, hnext⟩ := HP.out.next (by rw [HL.out]; exact hb)
   have hc := INS.out a (a + 20) d wr pre seg post HN.out S1.out hd hpre (by omega)
   have HC2 := aside hc
   have HX := aside hnext
   clear hc hnext hd hseg hpre
   go_wp2_with (go_at_fn 167; refine HC2.out.mono ?_; rintro e1 w1 ⟨rfl, d1, hd1, hd2, hd3⟩)
   have Q1 := aside (HX.out d1 hd1)
   have Q2 := aside hd2
   have Q3 := aside hd3
   clear hd1 hd2 hd3
   go_roundg (n - (a + 20))
   case measure => have := HK.out; omega
   case rel => exact ⟨a + 20, d1, by go_num, by go_num, hb, rfl, Q2, Q3, Q1⟩
  ·obtain ⟨pre, seg, hd, hpre, hseg, hnext⟩ := HP.out.last (by rw [HL.out]; exact hb)
   have hc := INS.out a n d wr pre seg [] HN.out S1.out hd hpre (by have := HL.out; omega)
   have HC2 := aside hc
   have HX := aside hnext
   clear hc hnext hd hseg hpre
   go_wp2_with (go_at_fn 167; refine HC2.out.mono ?_; rintro e1 w1 ⟨rfl, d1, hd1, hd2, hd3⟩)
   have Q1 : Aside (Blk (ltOf cf) 20 d0.toList d1.toList) := HX.out d1 hd1
   have Q2 := aside hd2
   have Q3 := aside hd3
   clear hd1 hd2 hd3 HX HC2 HP S1 HN HK
   go_loopg [6, 7, 8] (n - 20) (fun kx s6 s7 s8 wr2 => ∃ (s : Nat) (d : Array α), s6 = .int .i64 s ∧ 1 ≤ s ∧ s ≤ 2 * n + 20 ∧ Aside (kx = n - s) ∧ Aside (d.size = n) ∧ Aside (SB enc k w0 blk off d wr2) ∧ Aside (Blk (ltOf cf) s d0.toList d.toList))
   case atStart => exact ⟨20, d1, rfl, by omega, by omega, rfl, Q2, Q3, Q1⟩
   case round =>
    clear Q1 Q2 Q3
    obtain ⟨s, d, rfl, hs1, hs2, HK, HN, S1, HB⟩ := hrel
    by_cases hsn : s < n
    ·have hsz' : (s : Int) < (n : Int) := by omega
     obtain ⟨wo, hwo⟩ : ∃ wo : World, wo = wr := ⟨_, rfl⟩
     subst hwo
     have P1 : Aside (Pass (ltOf cf) s d0.toList 0 d) := Pass.start HB.out
     go_wp2_with fail
     go_loopg [7, 8] n (fun kx s7 s8 wr2 => ∃ (a b : Nat) (d : Array α), s7 = .int .i64 a ∧ s8 = .int .i64 b ∧ a ≤ n ∧ b ≤ a + 2 * s ∧ a + 2 * s ≤ b ∧ Aside (kx = n - a) ∧ Aside (d.size = n) ∧ Aside (SB enc k w0 blk off d wr2) ∧ Aside (Pass (ltOf cf) s d0.toList a d))
     case atStart => exact ⟨0, 2 * s, d, rfl, by first | rfl | go_num | (congr 1; omega), Nat.zero_le _, by omega, by omega, rfl, HN, S1, P1⟩
     case round =>
      clear P1 HN S1 HB
      obtain ⟨a, b, d, rfl, rfl, han, hb1, hb2, HK2, HN, S1, HP⟩ := hrel
      obtain ⟨m, em, hm1, hm2⟩ : ∃ m : Nat, (a : Int) + (s : Int) = (m : Int) ∧ m ≤ a + s ∧ a + s ≤ m := ⟨a + s, by omega, by omega, by omega⟩
      obtain ⟨b2, eb2, hb3, hb4⟩ : ∃ b2 : Nat, (b : Int) + 2 * (s : Int) = (b2 : Int) ∧ b2 ≤ b + 2 * s ∧ b + 2 * s ≤ b2 := ⟨b + 2 * s, by omega, by omega, by omega⟩
      by_cases hb : b ≤ n
      ·obtain ⟨pre, U, V, post, hT, hnext⟩ := HP.out.next HO.out (by rw [HL.out]; omega)
       rw [show a + s = m by omega, show a + 2 * s = b by omega] at hT
       rw [show a + 2 * s = b by omega] at hnext
       have hc := SYM.out a m b d wr pre U V post HN.out (by omega) (by omega) hb S1.out hT
       have HC2 := aside hc
       have HX := aside hnext
       clear hc hnext hT
       go_wp2_with (go_at_fn 168; refine HC2.out.mono ?_; rintro e1 w1 ⟨rfl, d1, hd1, hd2, hd3⟩)
       have Q1 := aside (HX.out d1 hd1)
       have Q2 := aside hd2
       have Q3 := aside hd3
       clear hd1 hd2 hd3
       go_roundg (n - b)
       case measure => have := HK2.out; omega
       case rel => exact ⟨b, b2, d1, rfl, rfl, hb, by omega, by omega, rfl, Q2, Q3, Q1⟩
      ·by_cases hm : m < n
       ·obtain ⟨pre, U, V, hT, hnext⟩ := HP.out.last HO.out (by rw [HL.out]; omega) (by rw [HL.out]; omega)
        rw [HL.out, show a + s = m by omega] at hT
        have hc := SYM.out a m n d wr pre U V [] HN.out (by omega) hm (Nat.le_refl _) S1.out hT
        have HC2 := aside hc
        have HX := aside hnext
        clear hc hnext hT
        go_wp2_with (go_at_fn 168; refine HC2.out.mono ?_; rintro e1 w1 ⟨rfl, d1, hd1, hd2, hd3⟩)
        have Q1 := aside (HX.out d1 hd1)
        have Q2 := aside hd2
        have Q3 := aside hd3
        clear hd1 hd2 hd3
        go_roundg (n - 2 * s)
        case measure => have := HK.out; omega
        case rel => exact ⟨2 * s, d1, by first | go_num | (congr 1; omega), by omega, by omega, rfl, Q2, Q3, Q1⟩
       ·have Q1 := aside (HP.out.none (by rw [HL.out]; omega) (by rw [HL.out]; omega))
        go_wp2_with fail
        go_roundg (n - 2 * s)
        case measure => have := HK.out; omega
        case rel => exact ⟨2 * s, d, by first | go_num | (congr 1; omega), by omega, by omega, rfl, HN, S1, Q1⟩
    ·go_wp2_with fail
     go_end0
     exact ⟨rfl, d, HB.out.whole (by rw [HL.out]; omega), HN.out, S1.out⟩
open Go.Proofs.YtcmiehddjgfjaaaGreatW.PrintWords Go.Proofs.YtcmiehddjgfjaaaGreatW.PrintLast Go.Proofs.YtcmiehddjgfjaaaGreatW.PrintMore
theorem lays : StLays Tryz.prog where
 mixed := by kernel_rfl
 f30 := Tryz.func146
 f33 := Tryz.func167
 f34 := Tryz.func168
 f36 := Tryz.func177
 f37 := Tryz.func181
 e33 := enters_of Tryz.func167 (by kernel_rfl) rfl
 e34 := enters_of Tryz.func168 (by kernel_rfl) rfl
 e36 := enters_of Tryz.func177 (by kernel_rfl) rfl
 e37 := enters_of Tryz.func181 (by kernel_rfl) rfl
 t3 := Tryz.underlying3
 a3 := Tryz.isAgg3
 z3 := Tryz.sizeOf3
 v3 := Tryz.zeroValue3
 t4 := Tryz.underlying4
 a4 := Tryz.isAgg4
 z4 := Tryz.sizeOf4
 v4 := Tryz.zeroValue4
 t53 := Tryz.underlying141
 a53 := Tryz.isAgg141
 z53 := Tryz.sizeOf141
 t22 := Tryz.underlying33
 a22 := Tryz.isAgg33
 z22 := Tryz.sizeOf33
 t45 := Tryz.underlying82
 a45 := Tryz.isAgg82
 z45 := Tryz.sizeOf82
theorem ins_none (A : Option Addr) (c g : Nat) (cb : Array Value) (w : World) :
  Calls Tryz.prog 167 #[.slice A 0 c, .int .i64 0, .int .i64 0, .func (.func g) #[] cb] w fun e w' => e = .returned (.tuple #[]) ∧ w' = w := by
 go_enter Tryz.func167, Tryz.ntmps167
 go_wp2_with fail
 go_loopg [8, 9] 0 (fun kq v8 v9 w' => v8 = .int .i64 1 ∧ w' = w)
 case atStart => exact ⟨rfl, rfl⟩
 case round =>
  obtain ⟨rfl, rfl⟩ := hrel
  go_wp2
  go_end0; exact ⟨rfl, rfl⟩
theorem stable_none (A : Option Addr) (c g : Nat) (cb : Array Value) (w : World) :
  Calls Tryz.prog 146 #[.slice A 0 c, .int .i64 0, .func (.func g) #[] cb] w fun e w' => e = .returned (.tuple #[]) ∧ w' = w := by
 go_enter Tryz.func146, Tryz.ntmps146
 go_wp2_with fail
 go_loopg [7, 8] 0 (fun kq v7 v8 w' => v7 = .int .i64 0 ∧ v8 = .int .i64 20 ∧ w' = w)
 case atStart => exact ⟨rfl, rfl, rfl⟩
 case round =>
  obtain ⟨rfl, rfl, rfl⟩ := hrel
  go_wp2_with fail
  refine (ins_none A c g cb wr).mono ?_
  rintro e w' ⟨rfl, rfl⟩
  go_wp2_with fail
  go_loopg [6, 7, 8, 9] 0 (fun kq v6 v7 v8 v9 w1 => v6 = .int .i64 20 ∧ w1 = w')
  case atStart => exact ⟨rfl, rfl⟩
  case round =>
   obtain ⟨rfl, rfl⟩ := hrel
   go_wp2
   go_end0; exact ⟨rfl, rfl⟩
/-- 'cmp' tells the order of two elements, in whatever world in which they can be read. -/
def CmpTells {α : Type} (d : Kd α) (g : Nat) (cb : Array Value) (cmp : α → α → Int) : Prop :=
 ∀ (W : World) (base : Nat) (ok : Nat → Prop) (x y : α) (cs ds : List Value), d.M W base ok x cs → d.M W base ok y ds →
  Calls Tryz.prog g (#[.agg cs.toArray, .agg ds.toArray] ++ cb) W fun e w' => e = .returned (.int .i64 (cmp x y)) ∧ Below W.heap.size W w'
theorem stable_R {α : Type} (d : Kd α) (hz : 0 < d.sz) (zE : ∀ w, (Go.sizeOf 37).run Tryz.prog w = .ok d.sz w) (cmp : α → α → Int) (g : Nat) (cb : Array Value) (eg : ∀ args w, (callFunc g args).run Tryz.prog w = .ok (.enter g args) w)
  (O : Stable.Ord (ltOf cmp)) (hcmp : CmpTells d g cb cmp) {w0 : World} {base : Nat} {ok : Nat → Prop} {v : Value} {xs : List α} (h : Kd.R d 37 w0 base ok v xs) (hl : xs.length < 1152921504606846976) :
  Calls Tryz.prog 146 #[v, .int .i64 xs.length, .func (.func g) #[] cb] w0 fun e w' => e = .returned (.tuple #[]) ∧ Kd.R d 37 w' base ok v (isort (ltOf cmp) xs) ∧ Below base w0 w' := by
 obtain ⟨A, c, rfl⟩ := Kd.R_slice h
 by_cases hx : xs = []
 ·subst hx
  refine (stable_none A c g cb w0).mono ?_
  rintro e w' ⟨rfl, rfl⟩
  exact ⟨rfl, h, Below.refl _ _⟩
 ·obtain ⟨ad, _, he⟩ := Kd.R_slice1 h (List.length_pos_iff.2 hx)
  injection he with he1 _ _
  subst he1
  obtain ⟨blk, rfl⟩ := Kd.R_head h
  obtain ⟨I, d0, hm, hs, hb, R⟩ := row_in h hx hz
  have hC : CmpB Tryz.prog g cb (elc (d := d) (w := w0) (base := base) (ok := ok) (g := blk)) d.sz (fun x y => cmp (elv x) (elv y)) blk 0 xs.length w0 := by
   intro dk W hdk hS x y
   exact hcmp W base _ _ _ _ _ (Kd.M_step x.2 (fun k hk hlt => hS.other hlt (fun e => hk.2 (by rw [e])))) (Kd.M_step y.2 (fun k hk hlt => hS.other hlt (fun e => hk.2 (by rw [e]))))
  have O' : Stable.Ord (ltOf (fun x y : El d w0 base ok blk => cmp (elv x) (elv y))) := ord_map elv O
  refine (stable_w lays d.sz Tryz.isAgg37 zE elc (fun x y => cmp (elv x) (elv y)) g cb eg blk 0 c xs.length d0 w0 R hs hC O' hl).mono ?_
  rintro e w' ⟨rfl, d', hd', hn, hS⟩
  obtain ⟨h1, h2⟩ := row_out h hx hn hS
  have e1 : d'.toList.map elv = isort (ltOf cmp) xs := by
   rw [hd', ← hm]
   exact isort_map elv (ltOf cmp) d0.toList
  rw [e1] at h1
  exact ⟨rfl, h1, h2 base hb⟩
/-- slices.SortStableFunc. -/
theorem sortStable_R {α : Type} (d : Kd α) (hz : 0 < d.sz) (zE : ∀ w, (Go.sizeOf 37).run Tryz.prog w = .ok d.sz w) (cmp : α → α → Int) (g : Nat) (cb : Array Value) (eg : ∀ args w, (callFunc g args).run Tryz.prog w = .ok (.enter g args) w)
  (O : Stable.Ord (ltOf cmp)) (hcmp : CmpTells d g cb cmp) {w0 : World} {base : Nat} {ok : Nat → Prop} {v : Value} {xs : List α} (h : Kd.R d 37 w0 base ok v xs) (hl : xs.length < 1152921504606846976) :
  Calls Tryz.prog 89 #[v, .func (.func g) #[] cb] w0 fun e w' => e = .returned (.tuple #[]) ∧ Kd.R d 37 w' base ok v (isort (ltOf cmp) xs) ∧ Below base w0 w' := by
 have hc := stable_R d hz zE cmp g cb eg O hcmp h hl
 obtain ⟨A, c, rfl⟩ := Kd.R_slice h
 have HC := aside hc
 clear hc h hcmp O eg zE
 go_enter Tryz.func89, Tryz.ntmps89
 go_wp2_with fail
 refine HC.out.mono ?_
 rintro e w' ⟨rfl, h1, h2⟩
 go_wp2
 go_end0
 exact ⟨rfl, h1, h2⟩
end Go.Proofs.YtcmiehddjgfjaaaGreat.St.GSs
namespace Go.Proofs.YtcmiehddjgfjaaaGreat.H
open Go.Shelf
def lays106_ren : Go.Shelf.Ren := ⟨fun | 106 => 94 | 213 => 147 | 265 => 169 | n => n, fun | 9 => 9 | 3 => 3 | n => n, fun | n => n⟩
theorem lays106 : Go.Proofs.Lays.n106 Tryz.prog lays106_ren := {
 mixed := by kernel_rfl
 f106 := Tryz.func94.trans (congrArg some (by kernel_rfl))
 f213 := Tryz.func147.trans (congrArg some (by kernel_rfl))
 f265 := Tryz.func169.trans (congrArg some (by kernel_rfl))
 t3 := Tryz.underlying3
 a3 := Tryz.isAgg3
 z3 := Tryz.sizeOf3
 v3 := Tryz.zeroValue3
 t9 := Tryz.underlying9
 a9 := Tryz.isAgg9
 z9 := Tryz.sizeOf9
 v9 := Tryz.zeroValue9 }
theorem strings_Compare (a b : ByteArray) (w : World) :
  Calls Tryz.prog 94 #[.string a, .string b] w fun e w' => e = .returned (.int .i64 (Lib.compareBytes a.data.toList b.data.toList)) ∧ w' = w := Any.strings_Compare lays106 a b w
end Go.Proofs.YtcmiehddjgfjaaaGreat.H
namespace Go.Proofs.YtcmiehddjgfjaaaGreat.A
open Go.RowKit Go.Proofs.YtcmiehddjgfjaaaGreatW.PrintWords Go.Proofs.YtcmiehddjgfjaaaGreatW.PrintLast Go.Proofs.YtcmiehddjgfjaaaGreatW.PrintMore Go.Proofs.YtcmiehddjgfjaaaGreat.St
theorem strcmp_calls (a b : ByteArray) (w : World) : Calls Tryz.prog 94 #[.string a, .string b] w fun e w' => e = .returned (.int .i64 (cmpS a b)) ∧ w = w' := (H.strings_Compare a b w).mono fun _ _ ⟨he, hw⟩ => ⟨he, hw.symm⟩
theorem byName_calls (x y : Lab) (w : World) : Calls Tryz.prog 93 #[.agg #[.string x.f0, .string x.f1], .agg #[.string y.f0, .string y.f1]] w fun e w' => e = .returned (.int .i64 (cmpS x.f0 y.f0)) ∧ Below w.heap.size w w' := by
 obtain ⟨s, t⟩ := x
 obtain ⟨u, v⟩ := y
 simp only
 have HC := Sd.mk (strcmp_calls s u)
 generalize cmpS s u = r at HC ⊢
 go_enter Tryz.func93, Tryz.ntmps93
 go_wp2_with (go_at_call 94; refine (HC.out _).mono ?_; rintro e w1 ⟨rfl, rfl⟩)
 go_ret
 exact ⟨rfl, by repeat (first | exact Below.refl _ _ | apply bal | apply pbd | apply bd1)⟩
theorem cmp1_calls (x y : Lab) (w : World) : Calls Tryz.prog 92 #[.agg #[.string x.f0, .string x.f1], .agg #[.string y.f0, .string y.f1]] w fun e w' => e = .returned (.int .i64 (cmpLab x y)) ∧ Below w.heap.size w w' := by
 have hb := fun w1 => byName_calls x y w1
 have hc := strcmp_calls x.f1 y.f1
 have he : cmpLab x y = if cmpS x.f0 y.f0 = 0 then cmpS x.f1 y.f1 else cmpS x.f0 y.f0 := rfl
 rw [he]
 obtain ⟨s, t⟩ := x
 obtain ⟨u, v⟩ := y
 simp only at hb hc ⊢
 clear he
 generalize cmpS s u = q at hb ⊢
 generalize cmpS t v = r at hc ⊢
 have HB := Sd.mk hb
 have HC := Sd.mk hc
 clear hb hc
 have x0 := blk_new (w.alloc (.cells #[.string s, .string t] 62)) (.cells #[.string u, .string v] 62)
 have b2 : Below w.heap.size w ((w.alloc (.cells #[.string s, .string t] 62)).alloc (.cells #[.string u, .string v] 62)) := bal (bal (Below.refl _ _) _) _
 have xs := blk_alloc (blk_new w (.cells #[.string s, .string t] 62)) (.cells #[.string u, .string v] 62)
 rw [World.size_alloc] at x0
 have X0 := Sd.mk x0
 have XS := Sd.mk xs
 have B2 := Sd.mk b2
 clear x0 xs b2
 by_cases h0 : q = 0
 ·subst h0
  rw [if_pos rfl]
  go_enter Tryz.func92, Tryz.ntmps92
  go_wp2_with (first
   | (go_at_call 93; refine (HB.out _).mono ?_; rintro e w1 ⟨rfl, hb1⟩; have c0 := (blk_cell (blk_below XS.out hb1) 1).trans rfl; have c1 := (blk_cell (blk_below X0.out hb1) 1).trans rfl; have HE := Sd.mk (B2.out.trans (hb1.mono B2.out.size)); clear hb1)
   | (go_at_call 94; refine (HC.out _).mono ?_; rintro e w2 ⟨rfl, rfl⟩))
  go_ret
  exact ⟨rfl, HE.out⟩
 ·rw [if_neg h0]
  have b1 : (q != 0) = true := by simpa using h0
  have b0 : (q == 0) = false := by simpa using h0
  clear h0
  go_enter Tryz.func92, Tryz.ntmps92
  go_wp2_with (go_at_call 93; refine (HB.out _).mono ?_; rintro e w1 ⟨rfl, hb1⟩; have HE := Sd.mk (B2.out.trans (hb1.mono B2.out.size)); clear hb1)
  go_ret
  exact ⟨rfl, HE.out⟩
theorem compareFunc_calls (A B : Option Addr) (c d : Nat) (a b : List Lab) (w : World) (ha : Kd.C k62 w A a.length a) (hb : Kd.C k62 w B b.length b) :
  Calls Tryz.prog 91 #[.slice A a.length c, .slice B b.length d, .func (.func 92) #[] #[]] w fun e w' => e = .returned (.int .i64 (cmpL a b)) ∧ Below w.heap.size w w' := by
 have hma : a.length ≤ 9223372036854775807 := Kd.C_max ha
 have hmb : b.length ≤ 9223372036854775807 := Kd.C_max hb
 have HA := Sd.mk ha
 have HB := Sd.mk hb
 have eg : ∀ args w, (callFunc 92 args).run Tryz.prog w = .ok (.enter 92 args) w := enters_of Tryz.func92 (by kernel_rfl) rfl
 clear ha hb
 go_enter Tryz.func91, Tryz.ntmps91
 go_wp2
 go_loopg [6, 7, 8, 9, 10, 13] a.length (fun gg v6 _ _ _ _ v13 wr => ∃ i : Nat, i ≤ a.length ∧ i ≤ b.length ∧ v6 = .int .i64 0 ∧ v13 = .int .i64 i ∧ Sd (gg = a.length - i) ∧ Sd (cmpL a b = cmpL (a.drop i) (b.drop i)) ∧ Sd (Below w.heap.size w wr))
 case atStart => exact ⟨0, Nat.zero_le _, Nat.zero_le _, rfl, rfl, ⟨rfl⟩, ⟨rfl⟩, ⟨Below.refl _ _⟩⟩
 case round =>
  obtain ⟨i, hia, hib, rfl, rfl, HK, HT, HW⟩ := hrel
  by_cases hlt : i < a.length
  ·have bl : (i : Int) < (a.length : Int) := by omega
   obtain ⟨ad, rfl, p0, p1⟩ := at_T62 (Kd.C_below HA.out HW.out) (i : Int) (by omega) (by omega)
   rw [Int.toNat_natCast, rdL_at hlt] at p0 p1
   have ea := List.drop_eq_getElem_cons hlt
   by_cases hj : i < b.length
   ·have bj : (i : Int) < (b.length : Int) := by omega
    have bj2 : decide ((i : Int) ≥ (b.length : Int)) = false := decide_eq_false (by omega)
    obtain ⟨ad2, rfl, r0, r1⟩ := at_T62 (Kd.C_below HB.out HW.out) (i : Int) (by omega) (by omega)
    rw [Int.toNat_natCast, rdL_at hj] at r0 r1
    have eb := List.drop_eq_getElem_cons hj
    have HT2 := Sd.mk (show cmpL a b = if cmpLab a[i] b[i] = 0 then cmpL (a.drop (i + 1)) (b.drop (i + 1)) else cmpLab a[i] b[i] by rw [HT.out, ea, eb, cmpL])
    clear ea eb HT
    have hcl := cmp1_calls a[i] b[i]
    generalize a[i] = x at p0 p1 HT2 hcl
    generalize b[i] = y at r0 r1 HT2 hcl
    generalize cmpLab x y = r at HT2 hcl
    have bn : Below wr.heap.size wr (wr.alloc (.cells #[.string x.f0, .string x.f1] 62)) := bal (Below.refl _ _) _
    have s0 := pw_cell_below bn r0
    have s1 := pw_cell_below bn r1
    clear bn r0 r1
    have bj3 : decide (b.length ≤ i) = false := decide_eq_false (by omega)
    by_cases h0 : r = 0
    ·subst h0
     have HT3 := Sd.mk (HT2.out.trans (if_pos rfl))
     clear HT2
     go_wp2_with (go_at_fn 92; refine (hcl _).mono ?_; rintro e w1 ⟨rfl, hb1⟩; have HE := Sd.mk ((bal (bal HW.out _) _).trans (hb1.mono (bal (bal HW.out _) _).size)); clear hb1)
     go_roundg (a.length - (i + 1))
     case measure => have := HK.out; omega
     case rel => exact ⟨i + 1, by omega, by omega, rfl, by go_num, ⟨rfl⟩, HT3, HE⟩
    ·have HT3 := Sd.mk (HT2.out.trans (if_neg h0))
     have n0 : (r != 0) = true := by simpa using h0
     have n1 : (r == 0) = false := by simpa using h0
     clear HT2 h0
     go_wp2_with (go_at_fn 92; refine (hcl _).mono ?_; rintro e w1 ⟨rfl, hb1⟩; have HE := Sd.mk ((bal (bal HW.out _) _).trans (hb1.mono (bal (bal HW.out _) _).size)); clear hb1)
     go_ret
     exact ⟨by rw [HT3.out]; rfl, HE.out⟩
   ·have bj2 : decide ((i : Int) ≥ (b.length : Int)) = true := decide_eq_true (by omega)
    have HT2 := Sd.mk (show cmpL a b = 1 by rw [HT.out, ea, show b.drop i = [] from List.drop_of_length_le (by omega)]; rfl)
    clear ea HT
    generalize a[i] = x at p0 p1
    have bj3 : decide (b.length ≤ i) = true := decide_eq_true (by omega)
    go_wp2
    go_ret
    exact ⟨by rw [HT2.out]; rfl, by have := HW.out; repeat (first | exact this | apply bal | apply pbd | apply bd1)⟩
  ·have n1 : decide ((i : Int) < (a.length : Int)) = false := decide_eq_false (by omega)
   have n2 : decide (i < a.length) = false := decide_eq_false hlt
   have HT2 := Sd.mk (show cmpL a b = if a.length < b.length then -1 else 0 by
    rw [HT.out, List.drop_of_length_le (by omega)]
    by_cases h : a.length < b.length
    ·rw [if_pos h, List.drop_eq_getElem_cons (show i < b.length by omega)]; rfl
    ·rw [if_neg h, List.drop_of_length_le (by omega)]; rfl)
   by_cases h : a.length < b.length
   ·have b1 : decide ((a.length : Int) < (b.length : Int)) = true := decide_eq_true (by omega)
    have b2 : decide (a.length < b.length) = true := decide_eq_true h
    rw [if_pos h] at HT2
    go_wp2
    go_ret
    exact ⟨by rw [HT2.out]; rfl, HW.out⟩
   ·have b1 : decide ((a.length : Int) < (b.length : Int)) = false := decide_eq_false (by omega)
    have b2 : decide (a.length < b.length) = false := decide_eq_false h
    rw [if_neg h] at HT2
    go_wp2
    go_ret
    exact ⟨by rw [HT2.out]; rfl, HW.out⟩
theorem lcompare_calls (A B : Option Addr) (c d : Nat) (a b : List Lab) (w : World) (ha : Kd.C k62 w A a.length a) (hb : Kd.C k62 w B b.length b) :
  Calls Tryz.prog 57 #[.slice A a.length c, .slice B b.length d] w fun e w' => e = .returned (.int .i64 (cmpL a b)) ∧ Below w.heap.size w w' := by
 have HC := Sd.mk (compareFunc_calls A B c d a b w ha hb)
 clear ha hb
 generalize cmpL a b = r at HC ⊢
 go_enter Tryz.func57, Tryz.ntmps57
 go_wp2_with (go_at_call 91; refine HC.out.mono ?_; rintro e w1 ⟨rfl, hb1⟩)
 go_ret
 exact ⟨rfl, hb1⟩
open Go.Proofs.YtcmiehddjgfjaaaGreat.Stable
def cmpSer (x y : Ser) : Int := cmpL x.f0 y.f0
theorem cmpSer3 : Cmp3 cmpSer := cmpL3.map S37.f0
theorem heapSer : Kd.Heap k37 := Kd.heap_iso _ (Kd.heap_pair (Kd.heap_slice _ (Kd.heap_iso _ (Kd.heap_pair Kd.heap_string Kd.heap_string))) (Kd.heap_iso _ (Kd.heap_pair (Kd.heap_int _) (Kd.heap_int _))))
theorem values_calls (A : Option Addr) (n c : Nat) (w : World) : Calls Tryz.prog 55 #[.slice A n c] w fun e w' => e = .returned (.func (.func 90) #[] #[.pointer (some ⟨w.heap.size, 0, none⟩)]) ∧ w' = w.alloc (.cells #[.slice A n c] 33) :=
 callsIn_wide.1 (ColS.values_in Fence.wide 3 trivial rfl A n c w)
theorem collect_calls (Bs : Nat) (A : Option Addr) (cap : Nat) (zs : List ColS.Rw) (hreach : zs.length * 40 ≤ 140737488355328) (w : World) (hBs : Bs < w.heap.size) (hc : w.cell? ⟨Bs, 0, none⟩ = some (.slice A zs.length cap)) (hI : ColS.Row w.heap.size w A zs) :
  Calls Tryz.prog 88 #[.func (.func 90) #[] #[.pointer (some ⟨Bs, 0, none⟩)]] w fun e w' => ∃ v, e = .returned v ∧ w'.ownsRow w.heap.size 37 3 v zs.length (ColS.flat zs) ∧ Below w.heap.size w w' := by
 have HA := Sd.mk (callsIn_wide.1 (ColS.appendSeq_in Fence.wide 3 trivial trivial rfl (by omega) Bs A cap zs hreach w hBs hc hI))
 clear hreach hBs hc hI
 go_enter Tryz.func88, Tryz.ntmps88
 go_wp2_with (go_at_call 145; refine HA.out.mono ?_; rintro e w1 ⟨v, rfl, ho, hb⟩; have HO := Sd.mk ho; have HB := Sd.mk hb; clear ho hb)
 go_ret
 exact ⟨v, rfl, HO.out, HB.out⟩
theorem sorted_calls {P' : Value → World → Prop} (g : Nat) (Bs : Nat) (A : Option Addr) (cap : Nat) (zs : List ColS.Rw) (hreach : zs.length * 40 ≤ 140737488355328) (w : World) (hBs : Bs < w.heap.size) (hc : w.cell? ⟨Bs, 0, none⟩ = some (.slice A zs.length cap)) (hI : ColS.Row w.heap.size w A zs)
  (hS : ∀ v w1, w1.ownsRow w.heap.size 37 3 v zs.length (ColS.flat zs) → Below w.heap.size w w1 → Calls Tryz.prog 89 #[v, .func (.func g) #[] #[]] w1 fun e w' => e = .returned (.tuple #[]) ∧ P' v w') :
  Calls Tryz.prog 54 #[.func (.func 90) #[] #[.pointer (some ⟨Bs, 0, none⟩)], .func (.func g) #[] #[]] w fun e w' => ∃ v, e = .returned v ∧ P' v w' := by
 have HA := Sd.mk (collect_calls Bs A cap zs hreach w hBs hc hI)
 have HS := Sd.mk hS
 clear hreach hBs hc hI hS
 go_enter Tryz.func54, Tryz.ntmps54
 go_wp2_with fail
 refine HA.out.mono ?_
 rintro e w1 ⟨v, rfl, ho, hb⟩
 have HC := Sd.mk (HS.out v w1 ho hb)
 clear ho hb HS HA
 go_wp2_with fail
 refine HC.out.mono ?_
 rintro e w2 ⟨rfl, hp⟩
 have HP := Sd.mk hp
 clear hp
 go_wp2
 go_ret
 exact ⟨v, rfl, HP.out⟩
/-- An element's cells, read in w0. -/
def kFix (w0 : World) : Kd Ser where
 sz := 3
 E := []
 K := fun _ x cs => Kd.FK k37 w0 (fun k => k < w0.heap.size) x cs
 M := fun _ _ _ x cs => Kd.FK k37 w0 (fun k => k < w0.heap.size) x cs
 K_len := fun h => k37.K_len (Kd.FK_now h)
 K_one := fun h => k37.K_one (Kd.FK_now h)
 K_below := fun _ h => h
 K_of_M := fun h => h
 M_mono := fun _ h => h
 M_bound := fun h => h
 M_move := fun _ h => h
 M_lower := fun _ h => h
theorem rows_of {w : World} {A : Option Addr} {l : List Ser} (hr : Kd.C k37 w A l.length l) : ∃ zs : List ColS.Rw, zs.length = l.length ∧ ColS.Row w.heap.size w A zs ∧ ∀ (j : Nat) (x : Ser) (r : ColS.Rw), l[j]? = some x → zs[j]? = some r → Kd.FK k37 w (fun k => k < w.heap.size) x (ColS.cl r) := by
 have hF := Kd.F_rows (Kd.C_F heapSer hr)
 obtain ⟨_, _, h3⟩ := hF
 have key : ∀ j : Fin l.length, ∃ r : ColS.Rw, Kd.FK k37 w (fun k => k < w.heap.size) l[j] (ColS.cl r) ∧ ∀ ad, A = some ad → ∀ i u, (ColS.cl r)[i]? = some u → w.cell? (ad.add (j * 3 + i)) = some u := by
  intro j
  obtain ⟨ad, rfl, hc⟩ := h3 (by have := j.2; omega)
  obtain ⟨c, hl, hk, hcell⟩ := hc j l[j] (List.getElem?_eq_getElem j.2)
  obtain ⟨A0, c0, rfl, _, _⟩ := k37_open (Kd.FK_now hk)
  exact ⟨((A0, l[j].f0.length, c0), l[j].f1.f0, l[j].f1.f1), hk, fun ad' e i u hu => by injection e with e; subst e; exact hcell i u hu⟩
 obtain ⟨f, hf⟩ : ∃ f : Fin l.length → ColS.Rw, ∀ j, Kd.FK k37 w (fun k => k < w.heap.size) l[j] (ColS.cl (f j)) ∧ ∀ ad, A = some ad → ∀ i u, (ColS.cl (f j))[i]? = some u → w.cell? (ad.add (j * 3 + i)) = some u := ⟨fun j => Classical.choose (key j), fun j => Classical.choose_spec (key j)⟩
 refine ⟨List.ofFn f, by simp, ?_, fun j x r hx hz => ?_⟩
 ·by_cases hl : l.length = 0
  ·exact .inl (List.eq_nil_of_length_eq_zero (by simpa using hl))
  ·obtain ⟨ad, rfl, hc⟩ := h3 (by omega)
   refine .inr ⟨ad, rfl, ?_, fun j hj => ?_⟩
   ·have h0 := (hf ⟨0, by omega⟩).2 ad rfl 0 _ rfl
    have := World.block_lt_of_cell? w _ h0
    rwa [add_block] at this
   ·rw [List.length_ofFn] at hj
    have e : (List.ofFn f)[j]?.getD ColS.z0 = f ⟨j, hj⟩ := by simp [hj]
    rw [e]
    have h := (hf ⟨j, hj⟩).2 ad rfl
    exact ⟨h 0 _ rfl, by rw [← add_field _ _ 1 (by omega)]; exact h 1 _ rfl, by rw [← add_field _ _ 2 (by omega)]; exact h 2 _ rfl⟩
 ·have hj : j < l.length := (List.getElem?_eq_some_iff.1 hx).1
  rw [List.getElem?_eq_getElem hj] at hx
  rw [List.getElem?_eq_getElem (by simpa using hj)] at hz
  injection hx with hx
  injection hz with hz
  subst hx; subst hz
  simpa using (hf ⟨j, hj⟩).1
theorem flat_seg (zs : List ColS.Rw) (j : Nat) (hj : j < zs.length) : ((ColS.flat zs).drop (j * 3)).take 3 = ColS.cl zs[j] := by
 induction zs generalizing j with
 | nil => simp at hj
 | cons z zs ih =>
  cases j with
  | zero => simp [ColS.flat, ColS.cl]
  | succ j =>
   have := ih j (by simpa using hj)
   rw [List.getElem_cons_succ, ← this]
   have e : (j + 1) * 3 = (ColS.cl z).length + j * 3 := by show (j + 1) * 3 = 3 + j * 3; omega
   rw [e, ← List.drop_drop]
   congr 1
theorem flat_len (zs : List ColS.Rw) : (ColS.flat zs).length = zs.length * 3 := by
 induction zs with
 | nil => rfl
 | cons z zs ih =>
  show (ColS.cl z ++ ColS.flat zs).length = _
  rw [List.length_append, ih, List.length_cons]
  show 3 + zs.length * 3 = _
  omega
theorem fix_R {w w1 : World} {l : List Ser} {zs : List ColS.Rw} {v : Value} (hz : zs.length = l.length) (hk : ∀ (j : Nat) (x : Ser) (r : ColS.Rw), l[j]? = some x → zs[j]? = some r → Kd.FK k37 w (fun k => k < w.heap.size) x (ColS.cl r))
  (ho : w1.ownsRow w.heap.size 37 3 v zs.length (ColS.flat zs)) : Kd.R (kFix w) 37 w1 w.heap.size (fun _ => True) v l := by
 refine ⟨fun _ _ => trivial, ColS.flat zs, by rw [← hz]; exact ho, by rw [flat_len, hz]; rfl, fun j p hp => ?_⟩
 have hj : j < zs.length := by have := (List.getElem?_eq_some_iff.1 hp).1; omega
 show Kd.FK k37 w (fun k => k < w.heap.size) p (((ColS.flat zs).drop (j * 3)).take 3)
 rw [flat_seg zs j hj]
 exact hk j p _ hp (List.getElem?_eq_getElem hj)
theorem fix_N {w w1 : World} {l : List Ser} {v : Value} (h : Kd.R (kFix w) 37 w1 w.heap.size (fun _ => True) v l) (hb : Below w.heap.size w w1) : Kd.N k37 37 w1 w.heap.size (fun _ => True) v l := by
 have hbase := Kd.R_base h
 have h2 := Kd.R_N h
 obtain ⟨h0, rows, hl, hR, hf⟩ := h2
 refine ⟨fun _ _ => trivial, rows, hl, hR, fun j x c hx hc => ?_⟩
 have hk : Kd.FK k37 w (fun k => k < w.heap.size) x c := Kd.FK_now (hf j x c hx hc)
 exact Kd.FK_mono (Kd.FK_step hk (fun k hk hlt => hb.block k hlt)) (fun k hk => ⟨trivial, fun e => by have := hbase k e.symm; omega⟩)
/-- 'cmp' tells the order of two elements, in each world in which what they lead to is as it was. -/
def CmpFix (g : Nat) (w : World) (cmp : Ser → Ser → Int) : Prop :=
 ∀ (W : World) (x y : Ser) (cs ds : List Value), k37.K W x cs → k37.K W y ds →
  Calls Tryz.prog g #[.agg cs.toArray, .agg ds.toArray] W fun e w' => e = .returned (.int .i64 (cmp x y)) ∧ Below W.heap.size W w'
theorem sort_fix {w w1 : World} {l : List Ser} {v : Value} (g : Nat) (eg : ∀ args w, (callFunc g args).run Tryz.prog w = .ok (.enter g args) w) (cmp : Ser → Ser → Int) (O : Cmp3 cmp) (hcmp : CmpFix g w cmp)
  (h : Kd.R (kFix w) 37 w1 w.heap.size (fun _ => True) v l) (hb : Below w.heap.size w w1) (hl : l.length < 1152921504606846976) :
  Calls Tryz.prog 146 #[v, .int .i64 l.length, .func (.func g) #[] #[]] w1 fun e w' => e = .returned (.tuple #[]) ∧ Kd.R (kFix w) 37 w' w.heap.size (fun _ => True) v (isort (ltOf cmp) l) ∧ Below w.heap.size w1 w' := by
 obtain ⟨A, c, rfl⟩ := Kd.R_slice h
 by_cases hx : l = []
 ·subst hx
  refine (GSs.stable_none A c g #[] w1).mono ?_
  rintro e w' ⟨rfl, rfl⟩
  exact ⟨rfl, h, Below.refl _ _⟩
 ·obtain ⟨ad, _, he⟩ := Kd.R_slice1 h (List.length_pos_iff.2 hx)
  injection he with he1 _ _
  subst he1
  obtain ⟨blk, rfl⟩ := Kd.R_head h
  obtain ⟨I, d0, hm, hs, hbk, R⟩ := row_in h hx (show 0 < 3 by omega)
  have hC : CmpB Tryz.prog g #[] (elc (d := kFix w) (w := w1) (base := w.heap.size) (ok := fun _ => True) (g := blk)) (kFix w).sz (fun x y => cmp (elv x) (elv y)) blk 0 l.length w1 := by
   intro dk W hdk hS x y
   have hW : ∀ k, k < w.heap.size → W.heap[k]? = w.heap[k]? := fun k hk => (hS.other (Nat.lt_of_lt_of_le hk hb.size) (by omega)).trans (hb.block k hk)
   exact hcmp W _ _ _ _ (Kd.FK_now (Kd.FK_step x.2 (fun k hk _ => hW k hk))) (Kd.FK_now (Kd.FK_step y.2 (fun k hk _ => hW k hk)))
  have O' : Stable.Ord (ltOf (fun x y : El (kFix w) w1 w.heap.size (fun _ => True) blk => cmp (elv x) (elv y))) := ord_map elv O.ord
  refine (GSs.stable_w GSs.lays (kFix w).sz Tryz.isAgg37 Tryz.sizeOf37 elc (fun x y => cmp (elv x) (elv y)) g #[] eg blk 0 c l.length d0 w1 R hs hC O' hl).mono ?_
  rintro e w' ⟨rfl, d', hd', hn, hS⟩
  obtain ⟨h1, h2⟩ := row_out h hx hn hS
  have e1 : d'.toList.map elv = isort (ltOf cmp) l := by
   rw [hd', ← hm]
   exact isort_map elv (ltOf cmp) d0.toList
  rw [e1] at h1
  exact ⟨rfl, h1, h2 _ hbk⟩
theorem sort_fix2 {w w1 : World} {l : List Ser} {v : Value} (g : Nat) (eg : ∀ args w, (callFunc g args).run Tryz.prog w = .ok (.enter g args) w) (cmp : Ser → Ser → Int) (O : Cmp3 cmp) (hcmp : CmpFix g w cmp)
  (h : Kd.R (kFix w) 37 w1 w.heap.size (fun _ => True) v l) (hb : Below w.heap.size w w1) (hl : l.length < 1152921504606846976) :
  Calls Tryz.prog 89 #[v, .func (.func g) #[] #[]] w1 fun e w' => e = .returned (.tuple #[]) ∧ Kd.R (kFix w) 37 w' w.heap.size (fun _ => True) v (isort (ltOf cmp) l) ∧ Below w.heap.size w1 w' := by
 have HC := Sd.mk (sort_fix g eg cmp O hcmp h hb hl)
 obtain ⟨A, c, rfl⟩ := Kd.R_slice h
 clear h hcmp O eg hb
 go_enter Tryz.func89, Tryz.ntmps89
 go_wp2_with fail
 refine HC.out.mono ?_
 rintro e w' ⟨rfl, h1, h2⟩
 go_wp2
 go_end0
 exact ⟨rfl, h1, h2⟩
/-- slices.SortedStableFunc(slices.Values(l), cmp), behind slices.Values. -/
theorem sortedN_calls (g : Nat) (eg : ∀ args w, (callFunc g args).run Tryz.prog w = .ok (.enter g args) w) (cmp : Ser → Ser → Int) (O : Cmp3 cmp) (Bs : Nat) (A : Option Addr) (cap : Nat) (l : List Ser) (hreach : l.length * 40 ≤ 140737488355328) (w : World) (hcmp : CmpFix g w cmp) (hBs : Bs < w.heap.size) (hc : w.cell? ⟨Bs, 0, none⟩ = some (.slice A l.length cap)) (hr : Kd.C k37 w A l.length l) :
  Calls Tryz.prog 54 #[.func (.func 90) #[] #[.pointer (some ⟨Bs, 0, none⟩)], .func (.func g) #[] #[]] w fun e w' => ∃ v, e = .returned v ∧ Kd.N k37 37 w' w.heap.size (fun _ => True) v (isort (ltOf cmp) l) ∧ Below w.heap.size w w' := by
 obtain ⟨zs, hz, hrow, hk⟩ := rows_of hr
 refine sorted_calls g Bs A cap zs (by omega) w hBs (by rw [hz]; exact hc) hrow (fun v w1 ho hb => ?_)
 refine (sort_fix2 g eg cmp O hcmp (fix_R hz hk ho) hb (by omega)).mono ?_
 rintro e w' ⟨rfl, h1, h2⟩
 exact ⟨rfl, fix_N h1 (hb.trans h2), hb.trans h2⟩
theorem sort3_calls (w : World) : CmpFix 56 w cmpSer := by
 intro W x y cs ds hx hy
 obtain ⟨A0, c0, rfl, _, hA⟩ := k37_open hx
 obtain ⟨B0, d0, rfl, _, hB⟩ := k37_open hy
 have hb := ((Below.refl W.heap.size W).alloc (Nat.le_refl _) (.cells #[.slice A0 x.f0.length c0, .int .i64 x.f1.f0, .int .i64 x.f1.f1] 37)).alloc (by simp) (.cells #[.slice B0 y.f0.length d0, .int .i64 y.f1.f0, .int .i64 y.f1.f1] 37)
 have HC := Sd.mk (lcompare_calls A0 B0 c0 d0 x.f0 y.f0 _ (Kd.C_below hA hb) (Kd.C_below hB hb))
 have HB := Sd.mk hb
 unfold cmpSer
 generalize cmpL x.f0 y.f0 = r at HC ⊢
 clear hx hy hA hB hb
 go_enter Tryz.func56, Tryz.ntmps56
 go_wp2_with (go_at_call 57; refine HC.out.mono ?_; rintro e w1 ⟨rfl, hb1⟩; have HE := Sd.mk (HB.out.trans (hb1.mono HB.out.size)); clear hb1)
 go_ret
 exact ⟨rfl, HE.out⟩
end Go.Proofs.YtcmiehddjgfjaaaGreat.A
namespace Go.Proofs.YtcmiehddjgfjaaaGreat.St.GSl
open Go.Proofs Go.Shelf Go.RowKit Go.Lib Go.Sort
/-- What the walks take of a program: its functions and types at these numbers. -/
structure StLays (P : Program) : Prop where
 mixed : P.follows .mixedOrders = true
 f30 : P.funcs[166]? = some Tryz.f166
 f33 : P.funcs[175]? = some Tryz.f175
 f34 : P.funcs[176]? = some Tryz.f176
 f36 : P.funcs[180]? = some Tryz.f180
 f37 : P.funcs[183]? = some Tryz.f183
 e33 : ∀ args w, (callFunc 175 args).run P w = .ok (.enter 175 args) w
 e34 : ∀ args w, (callFunc 176 args).run P w = .ok (.enter 176 args) w
 e36 : ∀ args w, (callFunc 180 args).run P w = .ok (.enter 180 args) w
 e37 : ∀ args w, (callFunc 183 args).run P w = .ok (.enter 183 args) w
 t3 : P.underlying 3 = some (TypeDesc.int IntKind.i64)
 a3 : ∀ w, (isAgg 3).run P w = .ok false w
 z3 : ∀ w, (Go.sizeOf 3).run P w = .ok 1 w
 v3 : ∀ w, (zeroValue 3).run P w = .ok (Value.int IntKind.i64 0) w
 t4 : P.underlying 4 = some (TypeDesc.bool)
 a4 : ∀ w, (isAgg 4).run P w = .ok false w
 z4 : ∀ w, (Go.sizeOf 4).run P w = .ok 1 w
 v4 : ∀ w, (zeroValue 4).run P w = .ok (Value.bool false) w
 t53 : P.underlying 141 = some (TypeDesc.int IntKind.u64)
 a53 : ∀ w, (isAgg 141).run P w = .ok false w
 z53 : ∀ w, (Go.sizeOf 141).run P w = .ok 1 w
 t22 : P.underlying 35 = some (TypeDesc.slice 62)
 a22 : ∀ w, (isAgg 35).run P w = .ok false w
 z22 : ∀ w, (Go.sizeOf 35).run P w = .ok 1 w
 t45 : P.underlying 115 = some (TypeDesc.func #[62, 62] #[3] false)
 a45 : ∀ w, (isAgg 115).run P w = .ok false w
 z45 : ∀ w, (Go.sizeOf 115).run P w = .ok 1 w
variable {P : Program} {α : Type} [Inhabited α]
theorem swapRange_w (L : StLays P) (k : Nat) (aE : ∀ w, (isAgg 62).run P w = .ok true w) (zE : ∀ w, (Go.sizeOf 62).run P w = .ok k w) (enc : α → List Value) (g : Nat) (cb : Array Value) (blk off cap a b n : Nat) (d0 d : Array α) (w0 w : World)
  (R : RowK enc k w0 blk off d0) (hs : d0.size = d.size) (S : SB enc k w0 blk off d w) (ha : a + n ≤ d.size) (hb : b + n ≤ d.size) (hsz : d.size < 4611686018427387904) :
  Calls P 183 #[.slice (some ⟨blk, off, none⟩) d.size cap, .int .i64 a, .int .i64 b, .int .i64 n, .func (.func g) #[] cb] w fun e w' => e = .returned (.tuple #[]) ∧ SB enc k w0 blk off (swpR a b 0 n d) w' := by
 have mixed := L.mixed; have t3 := L.t3; have a3 := L.a3; have z3 := L.z3; have v3 := L.v3; have t4 := L.t4; have a4 := L.a4; have z4 := L.z4; have v4 := L.v4; have t22 := L.t22; have a22 := L.a22; have z22 := L.z22
 have FG := L.f37
 have S0 : Aside (SB enc k w0 blk off d w) := S
 clear S
 go_enter FG, Tryz.ntmps183
 go_wp2_with fail
 go_loopg [10] n (fun kx s10 wr => ∃ (i : Nat) (dk : Array α), s10 = .int .i64 i ∧ i ≤ n ∧ kx = n - i ∧ dk.size = d.size ∧ Aside (SB enc k w0 blk off dk wr) ∧ swpR a b i (n - i) dk = swpR a b 0 n d)
 case atStart => exact ⟨0, d, rfl, Nat.zero_le _, rfl, rfl, S0, rfl⟩
 case round =>
  clear S0
  obtain ⟨i, dk, rfl, hin, hkx, hds, S1, heq⟩ := hrel
  by_cases hlt : i < n
  ·have hltz : (i : Int) < (n : Int) := by omega
   go_wp2_with fail
   have eA : ((a : Int) + (i : Int)).toNat = a + i := by omega
   have pA : (0 : Int) ≤ (a : Int) + (i : Int) := by omega
   have bA : (a : Int) + (i : Int) < (d.size : Int) := by omega
   have rA : IntKind.i64.wrap ((a : Int) + (i : Int)) = (a : Int) + (i : Int) := by rw [IntKind.wrap_i64]; omega
   have eB : ((b : Int) + (i : Int)).toNat = b + i := by omega
   have pB : (0 : Int) ≤ (b : Int) + (i : Int) := by omega
   have bB : (b : Int) + (i : Int) < (d.size : Int) := by omega
   have rB : IntKind.i64.wrap ((b : Int) + (i : Int)) = (b : Int) + (i : Int) := by rw [IntKind.wrap_i64]; omega
   have S2 : Aside (SB enc k w0 blk off (swp dk (a + i) (b + i)) ((wr.drew.setCells blk (off + (a + i) * k) (enc dk[b + i]!)).setCells blk (off + (b + i) * k) (enc dk[a + i]!))) := S1.out.swapped R (a + i) (b + i) (by omega) (by omega)
   have la := S1.out.ld1 R (by omega) P (a + i) (by omega)
   have lb := S1.out.ld1 R (by omega) P (b + i) (by omega)
   have sa := S1.out.st1 R (by omega) P (a + i) (by omega) dk[b + i]!
   have sb := S1.out.st2 R (by omega) P (a + i) (b + i) (by omega) (by omega) dk[b + i]! dk[a + i]!
   have na : (enc dk[a + i]!).length = k := R.hk _
   have nb : (enc dk[b + i]!).length = k := R.hk _
   generalize enc dk[a + i]! = cI at S2 la sb na
   generalize enc dk[b + i]! = cJ at S2 lb sa sb nb
   clear S1
   go_wp2_with fail
   go_big_region_o
   clear la lb sa sb
   generalize (wr.drew.setCells blk (off + (a + i) * k) cJ).setCells blk (off + (b + i) * k) cI = w2 at S2 ⊢
   go_wp2
   go_roundg (n - (i + 1))
   case measure => omega
   case rel =>
    rw [show n - i = n - (i + 1) + 1 by omega, swpR] at heq
    exact ⟨i + 1, swp dk (a + i) (b + i), by go_num, by omega, rfl, by rw [size_swp]; exact hds, S2, heq⟩
  ·have hi : i = n := by omega
   subst hi
   go_wp2
   go_end0
   refine ⟨rfl, ?_⟩
   rw [Nat.sub_self, swpR] at heq
   rw [← heq]
   exact S1.out
variable {P : Program} {α : Type} [Inhabited α]
theorem rotate_w (L : StLays P) (k : Nat) (aE : ∀ w, (isAgg 62).run P w = .ok true w) (zE : ∀ w, (Go.sizeOf 62).run P w = .ok k w) (enc : α → List Value) (g : Nat) (cb : Array Value) (blk off cap a m b : Nat) (d0 d : Array α) (w0 w : World)
  (R : RowK enc k w0 blk off d0) (hs : d0.size = d.size) (S : SB enc k w0 blk off d w) (ham : a < m) (hmb : m < b) (hb : b ≤ d.size) (hsz : d.size < 4611686018427387904) (t : List α) (ht : Left m t (m - a) (b - m) d) :
  Calls P 180 #[.slice (some ⟨blk, off, none⟩) d.size cap, .int .i64 a, .int .i64 m, .int .i64 b, .func (.func g) #[] cb] w fun e w' => e = .returned (.tuple #[]) ∧ ∃ d', d'.toList = t ∧ d'.size = d.size ∧ SB enc k w0 blk off d' w' := by
 have mixed := L.mixed; have t3 := L.t3; have a3 := L.a3; have z3 := L.z3; have v3 := L.v3; have t4 := L.t4; have a4 := L.a4; have z4 := L.z4; have v4 := L.v4; have t22 := L.t22; have a22 := L.a22; have z22 := L.z22
 have FG := L.f36
 have e37 := L.e37
 have S0 : Aside (SB enc k w0 blk off d w) := S
 have HT : Aside (Left m t (m - a) (b - m) d) := ht
 have LL : Aside (StLays P) := L
 clear S ht L
 have c1 : ((m - a : Nat) : Int) = (m : Int) - (a : Int) := by omega
 have c2 : ((b - m : Nat) : Int) = (b : Int) - (m : Int) := by omega
 have C1 := aside (c1)
 have C2 := aside (c2)
 clear c1 c2
 go_enter FG, Tryz.ntmps180
 go_wp2_with fail
 go_loopg [10, 11] (b - a) (fun kx s10 s11 wr => ∃ (i j : Nat) (dk : Array α), s10 = .int .i64 i ∧ s11 = .int .i64 j ∧ 0 < i ∧ 0 < j ∧ kx = i + j ∧ i ≤ m ∧ m + j ≤ d.size ∧ dk.size = d.size ∧ Aside (SB enc k w0 blk off dk wr) ∧ Aside (Left m t i j dk))
 case atStart => exact ⟨m - a, b - m, d, by rw [C1.out], by rw [C2.out], by omega, by omega, by omega, by omega, by omega, rfl, S0, HT⟩
 case round =>
  clear S0 HT
  obtain ⟨i, j, dk, rfl, rfl, hi, hj, hkx, him, hmj, hds, S1, HL⟩ := hrel
  have call : ∀ (x y n : Nat), x + n ≤ d.size → y + n ≤ d.size → Calls P 183 #[.slice (some ⟨blk, off, none⟩) d.size cap, .int .i64 x, .int .i64 y, .int .i64 n, .func (.func g) #[] cb] wr fun e w' => e = .returned (.tuple #[]) ∧ SB enc k w0 blk off (swpR x y 0 n dk) w' := by
   intro x y n hx hy
   rw [← hds]
   exact swapRange_w LL.out k aE zE enc g cb blk off cap x y n d0 dk w0 wr R (by omega) S1.out (by omega) (by omega) (by omega)
  have CALL := aside (call)
  clear call
  by_cases he : i = j
  ·subst he
   have c3 : ((m : Int) - (i : Int)) = ((m - i : Nat) : Int) := by omega
   have hc := CALL.out (m - i) m i (by omega) (by omega)
   have HL2 := aside (left_same HL.out)
   clear CALL HL
   go_wp2_with (go_at_fn 183; refine hc.mono ?_; rintro e w1 ⟨rfl, hw1⟩)
   go_end0
   exact ⟨rfl, _, HL2.out, by rw [swpR_size]; exact hds, hw1⟩
  ·by_cases hg : j < i
   ·have c3 : ((m : Int) - (i : Int)) = ((m - i : Nat) : Int) := by omega
    have hc := CALL.out (m - i) m j (by omega) (by omega)
    have HL2 := aside (left_great HL.out hg)
    clear CALL HL
    go_wp2_with (go_at_fn 183; refine hc.mono ?_; rintro e w1 ⟨rfl, hw1⟩)
    have S2 := aside (hw1)
    clear hw1 hc
    go_roundg (i - j + j)
    case measure => omega
    case rel => exact ⟨i - j, j, _, by go_num, rfl, by omega, by omega, rfl, by omega, by omega, by rw [swpR_size]; exact hds, S2, HL2⟩
   ·have c3 : ((m : Int) - (i : Int)) = ((m - i : Nat) : Int) := by omega
    have c4 : ((m : Int) + (j : Int) - (i : Int)) = ((m + j - i : Nat) : Int) := by omega
    have hc := CALL.out (m - i) (m + j - i) i (by omega) (by omega)
    have HL2 := aside (left_less HL.out (by omega))
    clear CALL HL
    go_wp2_with (go_at_fn 183; refine hc.mono ?_; rintro e w1 ⟨rfl, hw1⟩)
    have S2 := aside (hw1)
    clear hw1 hc
    go_roundg (i + (j - i))
    case measure => omega
    case rel => exact ⟨i, j - i, _, rfl, by go_num, by omega, by omega, rfl, by omega, by omega, by rw [swpR_size]; exact hds, S2, HL2⟩
open Go.Proofs.YtcmiehddjgfjaaaGreat.Stable
variable {P : Program} {α : Type} [Inhabited α]
theorem half_nat (i j : Nat) (hj : j < 4611686018427387904) (h : i < j) : ∃ h : Nat, ((i : Int) + (j : Int)) / 2 = (h : Int) ∧ i ≤ h ∧ h < j := ⟨(i + j) / 2, by omega, by omega, by omega⟩
theorem symLeft_w (L : StLays P) (k : Nat) (aE : ∀ w, (isAgg 62).run P w = .ok true w) (zE : ∀ w, (Go.sizeOf 62).run P w = .ok k w) (enc : α → List Value) (cf : α → α → Int) (g : Nat) (cb : Array Value) (eg : ∀ args w, (callFunc g args).run P w = .ok (.enter g args) w)
  (blk off cap a m b : Nat) (d0 d : Array α) (w0 w : World)
  (R : RowK enc k w0 blk off d0) (hs : d0.size = d.size) (hC : CmpB P g cb enc k cf blk off d.size w0) (O : Stable.Ord (ltOf cf)) (S : SB enc k w0 blk off d w) (hm : m = a + 1) (hmb : m < b) (hb : b ≤ d.size) (hsz : d.size < 4611686018427387904)
  (pre U V post : List α) (T : Two (ltOf cf) a m b pre U V post d) :
  Calls P 176 #[.slice (some ⟨blk, off, none⟩) d.size cap, .int .i64 a, .int .i64 m, .int .i64 b, .func (.func g) #[] cb] w fun e w' => e = .returned (.tuple #[]) ∧ ∃ d', d'.toList = pre ++ (merge (ltOf cf) U V ++ post) ∧ d'.size = d.size ∧ SB enc k w0 blk off d' w' := by
 have mixed := L.mixed; have t3 := L.t3; have a3 := L.a3; have z3 := L.z3; have v3 := L.v3; have t4 := L.t4; have a4 := L.a4; have z4 := L.z4; have v4 := L.v4; have t53 := L.t53; have a53 := L.a53; have z53 := L.z53; have t22 := L.t22; have a22 := L.a22; have z22 := L.z22; have t45 := L.t45
 have FG := L.f34
 have S0 : Aside (SB enc k w0 blk off d w) := S
 have HC : Aside (CmpB P g cb enc k cf blk off d.size w0) := hC
 have HT : Aside (Two (ltOf cf) a m b pre U V post d) := T
 have HO : Aside (Stable.Ord (ltOf cf)) := O
 have B0 : Aside (Bin (fun q => ltOf cf d[q]! d[a]!) m b m b) := Bin.start (T.mono1 O) (by omega)
 have HM : Aside (m = a + 1) := hm
 have am : a < m := by omega
 have tm : ((m : Int) - (a : Int) == 1) = true := by rw [beq_iff_eq]; omega
 have RR : Aside (RowK enc k w0 blk off d0) := R
 have HS : Aside (d0.size = d.size) := hs
 clear S hC T O hm L hs R
 go_enter FG, Tryz.ntmps176
 go_wp2_with fail
 go_loopg [10, 11] b (fun kx s10 s11 wr => ∃ (i j : Nat), s10 = .int .i64 i ∧ s11 = .int .i64 j ∧ m ≤ i ∧ i ≤ j ∧ j ≤ b ∧ Aside (kx = j - i + m) ∧ Aside (SB enc k w0 blk off d wr) ∧ Aside (Bin (fun q => ltOf cf d[q]! d[a]!) m b i j))
 case atStart => exact ⟨m, b, rfl, rfl, Nat.le_refl _, by omega, Nat.le_refl _, (show _ = _ by omega), S0, B0⟩
 case round =>
  clear S0 B0
  obtain ⟨i, j, rfl, rfl, hmi, hij, hjb, HK, S1, HB⟩ := hrel
  by_cases hlt : i < j
  ·have hltz : (i : Int) < (j : Int) := by omega
   obtain ⟨h, hh, hih, hhj⟩ := half_nat i j (by omega) hlt
   have pH : (0 : Int) ≤ (h : Int) := by omega
   have bH : (h : Int) < (d.size : Int) := by omega
   have bA : (a : Int) < (d.size : Int) := by omega
   have lh : ∀ p : SBW enc k w0 blk off d, Sem.run P (loadCellsFrom ⟨blk, off + h * k, none⟩ 0 k #[]) p.w = .ok (enc d[h]!).toArray p.w := fun p => p.h.load RR.out HS.out.symm P h (by omega)
   have la : ∀ p : SBW enc k w0 blk off d, Sem.run P (loadCellsFrom ⟨blk, off + a * k, none⟩ 0 k #[]) p.w = .ok (enc d[a]!).toArray p.w := fun p => p.h.load RR.out HS.out.symm P a (by omega)
   have hcg : ∀ p : SBW enc k w0 blk off d, Calls P g (#[.agg (enc d[h]!).toArray, .agg (enc d[a]!).toArray] ++ cb) p.w fun e w' => e = .returned (.int .i64 (cf d[h]! d[a]!)) ∧ ∃ q : SBW enc k w0 blk off d, w' = q.w := fun p => HC.out.at p rfl _ _
   have HR : Aside (∀ v, ltOf cf d[h]! d[a]! = v → (if v = true then Bin (fun q => ltOf cf d[q]! d[a]!) m b (h + 1) j else Bin (fun q => ltOf cf d[q]! d[a]!) m b i h)) := fun v hv => by
    cases v with
    | true => exact HB.out.right hih hhj hv
    | false => exact HB.out.left hih hhj hv
   obtain ⟨x, hx⟩ : ∃ x, d[h]! = x := ⟨_, rfl⟩
   obtain ⟨y, hy⟩ : ∃ y, d[a]! = y := ⟨_, rfl⟩
   rw [hx] at lh hcg
   rw [hy] at la hcg
   have HX : Aside (d[h]! = x) := hx
   have HY : Aside (d[a]! = y) := hy
   clear hx hy
   by_cases hlv : cf x y < 0
   ·have HL : Aside (ltOf cf d[h]! d[a]! = true) := by show _ = _; rw [HX.out, HY.out]; exact decide_eq_true hlv
    go_wp2_with fail
    haveI : Inhabited (SBW enc k w0 blk off d) := ⟨⟨_, S1.out⟩⟩
    refine wp_region_sb S1.out (by assumption) (by kernel_rfl) ?_
    repeat (quiet_step ((go_at_fn g; exact hcg _)))
    refine wpQuiet_nil ?_
    intro _ hw'
    obtain ⟨p, rfl⟩ := hw'
    go_wp2_with fail
    go_roundg (j - (h + 1) + m)
    case measure => have := HK.out; omega
    case rel => exact ⟨h + 1, j, by go_num, rfl, by omega, by omega, hjb, rfl, p.h, HR.out true HL.out⟩
   ·have HL : Aside (ltOf cf d[h]! d[a]! = false) := by show _ = _; rw [HX.out, HY.out]; exact decide_eq_false hlv
    go_wp2_with fail
    haveI : Inhabited (SBW enc k w0 blk off d) := ⟨⟨_, S1.out⟩⟩
    refine wp_region_sb S1.out (by assumption) (by kernel_rfl) ?_
    repeat (quiet_step ((go_at_fn g; exact hcg _)))
    refine wpQuiet_nil ?_
    intro _ hw'
    obtain ⟨p, rfl⟩ := hw'
    go_wp2_with fail
    go_roundg (h - i + m)
    case measure => have := HK.out; omega
    case rel => exact ⟨i, h, rfl, rfl, hmi, by omega, by omega, rfl, p.h, HR.out false HL.out⟩
  ·have hi : j = i := by omega
   subst hi
   have HD : Aside (MvR (pre ++ (merge (ltOf cf) U V ++ post)) j a d) := HT.out.one_left HO.out HM.out HB.out
   clear HB HK
   go_wp2_with fail
   go_loopg [13] (j - a) (fun kx s13 wr2 => ∃ (q : Nat) (dk : Array α), s13 = .int .i64 q ∧ a ≤ q ∧ q + 1 ≤ j ∧ Aside (kx = j - q) ∧ dk.size = d.size ∧ Aside (SB enc k w0 blk off dk wr2) ∧ Aside (MvR (pre ++ (merge (ltOf cf) U V ++ post)) j q dk))
   case atStart => exact ⟨a, d, rfl, Nat.le_refl _, by omega, rfl, rfl, S1, HD⟩
   case round =>
    clear S1 HD
    obtain ⟨q, dk, rfl, haq, hqj, HK, hds, S1, HD⟩ := hrel
    by_cases hq : q + 1 < j
    ·have hqz : (q : Int) < (j : Int) - 1 := by omega
     have e0 : ((q : Int) + 1).toNat = q + 1 := by omega
     have p0 : (0 : Int) ≤ (q : Int) + 1 := by omega
     have b0 : (q : Int) + 1 < (d.size : Int) := by omega
     have b1 : (q : Int) < (d.size : Int) := by omega
     go_wp2_with fail
     have S2 : Aside (SB enc k w0 blk off (swp dk q (q + 1)) ((wr.drew.setCells blk (off + q * k) (enc dk[q + 1]!)).setCells blk (off + (q + 1) * k) (enc dk[q]!))) := S1.out.swapped RR.out q (q + 1) (by omega) (by omega)
     have la := S1.out.ld1 RR.out (by have := HS.out; omega) P q (by omega)
     have lb := S1.out.ld1 RR.out (by have := HS.out; omega) P (q + 1) (by omega)
     have sa := S1.out.st1 RR.out (by have := HS.out; omega) P q (by omega) dk[q + 1]!
     have sb := S1.out.st2 RR.out (by have := HS.out; omega) P q (q + 1) (by omega) (by omega) dk[q + 1]! dk[q]!
     have na : (enc dk[q]!).length = k := RR.out.hk _
     have nb : (enc dk[q + 1]!).length = k := RR.out.hk _
     generalize enc dk[q]! = cI at S2 la sb na
     generalize enc dk[q + 1]! = cJ at S2 lb sa sb nb
     clear S1
     go_big_region_o
     clear la lb sa sb
     generalize (wr.drew.setCells blk (off + q * k) cJ).setCells blk (off + (q + 1) * k) cI = w2 at S2 ⊢
     go_wp2
     go_roundg (j - (q + 1))
     case measure => have := HK.out; omega
     case rel => exact ⟨q + 1, swp dk q (q + 1), by go_num, by omega, by omega, rfl, by rw [size_swp]; exact hds, S2, HD.out.step hq⟩
    ·have hqz : ¬ (q : Int) < (j : Int) - 1 := by omega
     go_wp2
     refine bodyPost_ret (results_none rfl _ _ _) rfl ?_
     exact ⟨rfl, dk, HD.out.done hq, hds, S1.out⟩
variable {P : Program} {α : Type} [Inhabited α]
theorem symRight_w (L : StLays P) (k : Nat) (aE : ∀ w, (isAgg 62).run P w = .ok true w) (zE : ∀ w, (Go.sizeOf 62).run P w = .ok k w) (enc : α → List Value) (cf : α → α → Int) (g : Nat) (cb : Array Value) (eg : ∀ args w, (callFunc g args).run P w = .ok (.enter g args) w)
  (blk off cap a m b : Nat) (d0 d : Array α) (w0 w : World)
  (R : RowK enc k w0 blk off d0) (hs : d0.size = d.size) (hC : CmpB P g cb enc k cf blk off d.size w0) (O : Stable.Ord (ltOf cf)) (S : SB enc k w0 blk off d w) (ham : a + 1 < m) (hm : b = m + 1) (hb : b ≤ d.size) (hsz : d.size < 4611686018427387904)
  (pre U V post : List α) (T : Two (ltOf cf) a m b pre U V post d) :
  Calls P 176 #[.slice (some ⟨blk, off, none⟩) d.size cap, .int .i64 a, .int .i64 m, .int .i64 b, .func (.func g) #[] cb] w fun e w' => e = .returned (.tuple #[]) ∧ ∃ d', d'.toList = pre ++ (merge (ltOf cf) U V ++ post) ∧ d'.size = d.size ∧ SB enc k w0 blk off d' w' := by
 have mixed := L.mixed; have t3 := L.t3; have a3 := L.a3; have z3 := L.z3; have v3 := L.v3; have t4 := L.t4; have a4 := L.a4; have z4 := L.z4; have v4 := L.v4; have t53 := L.t53; have a53 := L.a53; have z53 := L.z53; have t22 := L.t22; have a22 := L.a22; have z22 := L.z22; have t45 := L.t45
 have FG := L.f34
 have S0 : Aside (SB enc k w0 blk off d w) := S
 have HC : Aside (CmpB P g cb enc k cf blk off d.size w0) := hC
 have HT : Aside (Two (ltOf cf) a m b pre U V post d) := T
 have HO : Aside (Stable.Ord (ltOf cf)) := O
 have B0 : Aside (Bin (fun q => !ltOf cf d[m]! d[q]!) a m a m) := Bin.start (T.mono2 O) (by omega)
 have HM : Aside (b = m + 1) := hm
 have am : a < m := by omega
 have mb : m < b := by omega
 have tm : ((m : Int) - (a : Int) == 1) = false := by rw [beq_eq_false_iff_ne]; omega
 have tm2 : ((b : Int) - (m : Int) == 1) = true := by rw [beq_iff_eq]; omega
 have RR : Aside (RowK enc k w0 blk off d0) := R
 have HS : Aside (d0.size = d.size) := hs
 clear S hC T O hm L hs R
 go_enter FG, Tryz.ntmps176
 go_wp2_with fail
 go_loopg [14, 15] m (fun kx s10 s11 wr => ∃ (i j : Nat), s10 = .int .i64 i ∧ s11 = .int .i64 j ∧ a ≤ i ∧ i ≤ j ∧ j ≤ m ∧ Aside (kx = j - i + a) ∧ Aside (SB enc k w0 blk off d wr) ∧ Aside (Bin (fun q => !ltOf cf d[m]! d[q]!) a m i j))
 case atStart => exact ⟨a, m, rfl, rfl, Nat.le_refl _, by omega, Nat.le_refl _, (show _ = _ by omega), S0, B0⟩
 case round =>
  clear S0 B0
  obtain ⟨i, j, rfl, rfl, hmi, hij, hjb, HK, S1, HB⟩ := hrel
  by_cases hlt : i < j
  ·have hltz : (i : Int) < (j : Int) := by omega
   obtain ⟨h, hh, hih, hhj⟩ := half_nat i j (by omega) hlt
   have pH : (0 : Int) ≤ (h : Int) := by omega
   have bH : (h : Int) < (d.size : Int) := by omega
   have bA : (m : Int) < (d.size : Int) := by omega
   have lh : ∀ p : SBW enc k w0 blk off d, Sem.run P (loadCellsFrom ⟨blk, off + h * k, none⟩ 0 k #[]) p.w = .ok (enc d[h]!).toArray p.w := fun p => p.h.load RR.out HS.out.symm P h (by omega)
   have la : ∀ p : SBW enc k w0 blk off d, Sem.run P (loadCellsFrom ⟨blk, off + m * k, none⟩ 0 k #[]) p.w = .ok (enc d[m]!).toArray p.w := fun p => p.h.load RR.out HS.out.symm P m (by omega)
   have hcg : ∀ p : SBW enc k w0 blk off d, Calls P g (#[.agg (enc d[m]!).toArray, .agg (enc d[h]!).toArray] ++ cb) p.w fun e w' => e = .returned (.int .i64 (cf d[m]! d[h]!)) ∧ ∃ q : SBW enc k w0 blk off d, w' = q.w := fun p => HC.out.at p rfl _ _
   have HR : Aside (∀ v, ltOf cf d[m]! d[h]! = v → (if v = true then Bin (fun q => !ltOf cf d[m]! d[q]!) a m i h else Bin (fun q => !ltOf cf d[m]! d[q]!) a m (h + 1) j)) := fun v hv => by
    cases v with
    | true => exact HB.out.left hih hhj (by simp [hv])
    | false => exact HB.out.right hih hhj (by simp [hv])
   obtain ⟨x, hx⟩ : ∃ x, d[h]! = x := ⟨_, rfl⟩
   obtain ⟨y, hy⟩ : ∃ y, d[m]! = y := ⟨_, rfl⟩
   rw [hx] at lh hcg
   rw [hy] at la hcg
   have HX : Aside (d[h]! = x) := hx
   have HY : Aside (d[m]! = y) := hy
   clear hx hy
   by_cases hlv : cf y x < 0
   ·have HL : Aside (ltOf cf d[m]! d[h]! = true) := by show _ = _; rw [HY.out, HX.out]; exact decide_eq_true hlv
    go_wp2_with fail
    haveI : Inhabited (SBW enc k w0 blk off d) := ⟨⟨_, S1.out⟩⟩
    refine wp_region_sb S1.out (by assumption) (by kernel_rfl) ?_
    repeat (quiet_step ((go_at_fn g; exact hcg _)))
    refine wpQuiet_nil ?_
    intro _ hw'
    obtain ⟨p, rfl⟩ := hw'
    go_wp2_with fail
    go_roundg (h - i + a)
    case measure => have := HK.out; omega
    case rel => exact ⟨i, h, rfl, rfl, hmi, by omega, by omega, rfl, p.h, HR.out true HL.out⟩
   ·have HL : Aside (ltOf cf d[m]! d[h]! = false) := by show _ = _; rw [HY.out, HX.out]; exact decide_eq_false hlv
    have hdn : decide (cf y x < 0) = false := decide_eq_false hlv
    go_wp2_with fail
    haveI : Inhabited (SBW enc k w0 blk off d) := ⟨⟨_, S1.out⟩⟩
    refine wp_region_sb S1.out (by assumption) (by kernel_rfl) ?_
    repeat (quiet_step ((go_at_fn g; exact hcg _)))
    refine wpQuiet_nil ?_
    intro _ hw'
    obtain ⟨p, rfl⟩ := hw'
    go_wp2_with fail
    go_roundg (j - (h + 1) + a)
    case measure => have := HK.out; omega
    case rel => exact ⟨h + 1, j, by go_num, rfl, by omega, by omega, hjb, rfl, p.h, HR.out false HL.out⟩
  ·have hi : j = i := by omega
   subst hi
   have HD : Aside (MvL (pre ++ (merge (ltOf cf) U V ++ post)) j m d) := HT.out.one_right HO.out HM.out HB.out
   clear HB HK
   go_wp2_with fail
   go_loopg [17] (m - j) (fun kx s17 wr2 => ∃ (q : Nat) (dk : Array α), s17 = .int .i64 q ∧ q ≤ m ∧ j ≤ q ∧ Aside (kx = q - j) ∧ dk.size = d.size ∧ Aside (SB enc k w0 blk off dk wr2) ∧ Aside (MvL (pre ++ (merge (ltOf cf) U V ++ post)) j q dk))
   case atStart => exact ⟨m, d, rfl, Nat.le_refl _, by omega, rfl, rfl, S1, HD⟩
   case round =>
    clear S1 HD
    obtain ⟨q, dk, rfl, haq, hqj, HK, hds, S1, HD⟩ := hrel
    by_cases hq : j < q
    ·obtain ⟨q, rfl⟩ : ∃ r, q = r + 1 := ⟨q - 1, by omega⟩
     have hqz : (j : Int) < (q : Int) + 1 := by omega
     have e0 : ((q : Int) + 1).toNat = q + 1 := by omega
     have p0 : (0 : Int) ≤ (q : Int) + 1 := by omega
     have b0 : (q : Int) + 1 < (d.size : Int) := by omega
     have b1 : (q : Int) < (d.size : Int) := by omega
     have hwp : IntKind.i64.wrap (q : Int) = (q : Int) := by rw [IntKind.wrap_i64]; omega
     go_wp2_with fail
     have S2 : Aside (SB enc k w0 blk off (swp dk (q + 1) q) ((wr.drew.setCells blk (off + (q + 1) * k) (enc dk[q]!)).setCells blk (off + q * k) (enc dk[q + 1]!))) := S1.out.swapped RR.out (q + 1) q (by omega) (by omega)
     have la := S1.out.ld1 RR.out (by have := HS.out; omega) P (q + 1) (by omega)
     have lb := S1.out.ld1 RR.out (by have := HS.out; omega) P q (by omega)
     have sa := S1.out.st1 RR.out (by have := HS.out; omega) P (q + 1) (by omega) dk[q]!
     have sb := S1.out.st2 RR.out (by have := HS.out; omega) P (q + 1) q (by omega) (by omega) dk[q]! dk[q + 1]!
     have na : (enc dk[q + 1]!).length = k := RR.out.hk _
     have nb : (enc dk[q]!).length = k := RR.out.hk _
     generalize enc dk[q + 1]! = cI at S2 la sb na
     generalize enc dk[q]! = cJ at S2 lb sa sb nb
     clear S1
     go_big_region_o
     clear la lb sa sb
     generalize (wr.drew.setCells blk (off + (q + 1) * k) cJ).setCells blk (off + q * k) cI = w2 at S2 ⊢
     go_wp2
     go_roundg (q - j)
     case measure => have := HK.out; omega
     case rel => exact ⟨q, swp dk (q + 1) q, by go_num, by omega, by omega, rfl, by rw [size_swp]; exact hds, S2, HD.out.step hq⟩
    ·have hqz : ¬ (j : Int) < (q : Int) := by omega
     go_wp2
     refine bodyPost_ret (results_none rfl _ _ _) rfl ?_
     exact ⟨rfl, dk, HD.out.done hq, hds, S1.out⟩
variable {P : Program} {α : Type} [Inhabited α]
theorem mid_way (a m b : Nat) (am : a < m) (mb : m < b) : ∃ mid lo hi : Nat, ((a : Int) + (b : Int)) / 2 = (mid : Int) ∧ Mid a m b mid lo hi ∧ ((mid < m ∧ (mid : Int) + (m : Int) - (b : Int) = (lo : Int) ∧ hi = mid) ∨ (¬ mid < m ∧ lo = a ∧ hi = m)) := by
 by_cases h : (a + b) / 2 < m
 ·exact ⟨(a + b) / 2, (a + b) / 2 + m - b, (a + b) / 2, by omega, ⟨am, mb, rfl, .inl ⟨h, by omega, rfl⟩⟩, .inl ⟨h, by omega, rfl⟩⟩
 ·exact ⟨(a + b) / 2, a, m, by omega, ⟨am, mb, rfl, .inr ⟨by omega, rfl, rfl⟩⟩, .inr ⟨h, rfl, rfl⟩⟩
/-- What a call of symMerge does. -/
def SymDoes (P : Program) (enc : α → List Value) (k : Nat) (lt : α → α → Bool) (g : Nat) (cb : Array Value) (blk off cap a m b : Nat) (d : Array α) (w0 w : World) : Prop :=
 ∀ pre U V post : List α, Two lt a m b pre U V post d → Calls P 176 #[.slice (some ⟨blk, off, none⟩) d.size cap, .int .i64 a, .int .i64 m, .int .i64 b, .func (.func g) #[] cb] w fun e w' => e = .returned (.tuple #[]) ∧ ∃ d', d'.toList = pre ++ (merge lt U V ++ post) ∧ d'.size = d.size ∧ SB enc k w0 blk off d' w'
theorem symMid_w (L : StLays P) (k : Nat) (aE : ∀ w, (isAgg 62).run P w = .ok true w) (zE : ∀ w, (Go.sizeOf 62).run P w = .ok k w) (enc : α → List Value) (cf : α → α → Int) (g : Nat) (cb : Array Value) (eg : ∀ args w, (callFunc g args).run P w = .ok (.enter g args) w)
  (blk off cap a m b : Nat) (d0 d : Array α) (w0 w : World)
  (R : RowK enc k w0 blk off d0) (hs : d0.size = d.size) (hC : CmpB P g cb enc k cf blk off d.size w0) (O : Stable.Ord (ltOf cf)) (S : SB enc k w0 blk off d w) (ham : a + 1 < m) (hmb : m + 1 < b) (hb : b ≤ d.size) (hsz : d.size < 4611686018427387904)
  (pre U V post : List α) (T : Two (ltOf cf) a m b pre U V post d)
  (IH : ∀ (a' m' b' : Nat) (d' : Array α) (w' : World), b' - a' < b - a → d'.size = d.size → a' < m' → m' < b' → b' ≤ d.size → SB enc k w0 blk off d' w' → SymDoes P enc k (ltOf cf) g cb blk off cap a' m' b' d' w0 w') :
  Calls P 176 #[.slice (some ⟨blk, off, none⟩) d.size cap, .int .i64 a, .int .i64 m, .int .i64 b, .func (.func g) #[] cb] w fun e w' => e = .returned (.tuple #[]) ∧ ∃ d', d'.toList = pre ++ (merge (ltOf cf) U V ++ post) ∧ d'.size = d.size ∧ SB enc k w0 blk off d' w' := by
 obtain ⟨mid, lo, hi, hmid, M, way⟩ := mid_way a m b (by omega) (by omega)
 obtain ⟨f1, f2, f3, f4, f5, f6, f7⟩ := M.facts
 have B0 : Aside (Bin (fun c => !ltOf cf d[mid + m - 1 - c]! d[c]!) lo hi lo hi) := Bin.start (T.mono3 O f1 f3 f7) f2
 have F7 := aside (f7)
 have mixed := L.mixed; have t3 := L.t3; have a3 := L.a3; have z3 := L.z3; have v3 := L.v3; have t4 := L.t4; have a4 := L.a4; have z4 := L.z4; have v4 := L.v4; have t53 := L.t53; have a53 := L.a53; have z53 := L.z53; have t22 := L.t22; have a22 := L.a22; have z22 := L.z22; have t45 := L.t45
 have FG := L.f34
 have e34 := L.e34
 have e36 := L.e36
 have S0 : Aside (SB enc k w0 blk off d w) := S
 have HC : Aside (CmpB P g cb enc k cf blk off d.size w0) := hC
 have HT : Aside (Two (ltOf cf) a m b pre U V post d) := T
 have HO : Aside (Stable.Ord (ltOf cf)) := O
 have HM : Aside (Mid a m b mid lo hi) := M
 have HI := aside (IH)
 have tm : ((m : Int) - (a : Int) == 1) = false := by rw [beq_eq_false_iff_ne]; omega
 have tm2 : ((b : Int) - (m : Int) == 1) = false := by rw [beq_eq_false_iff_ne]; omega
 have RR : Aside (RowK enc k w0 blk off d0) := R
 have HS : Aside (d0.size = d.size) := hs
 have LL : Aside (StLays P) := L
 clear S hC T O M L hs R IH f7
 go_enter FG, Tryz.ntmps176
 have WAY := aside (way)
 have pp : ∃ pp : Nat, (mid : Int) + (m : Int) - 1 = (pp : Int) ∧ pp = mid + m - 1 := ⟨mid + m - 1, by omega, rfl⟩
 obtain ⟨pp, epp, hpp⟩ := pp
 have HPP := aside (hpp)
 have hpl : pp < d.size + d.size := by omega
 clear way hpp
 go_upto_if 140 with fail
 go_cut [20, 21] from 138 to 146 (fun s20 s21 wx => s20 = .int .i64 lo ∧ s21 = .int .i64 hi ∧ wx = w)
 case first =>
  rcases WAY.out with ⟨w1, eLo, rfl⟩ | ⟨w1, rfl, rfl⟩
  ·go_wp2_with fail
   go_meet
   exact ⟨rfl, rfl, rfl⟩
  ·go_wp2_with fail
   go_meet
   exact ⟨rfl, rfl, rfl⟩
 case rest =>
  obtain ⟨rfl, rfl, rfl⟩ := hcut
  clear WAY
  go_wp2_with fail
  go_loopg [20, 21] (hi - lo) (fun kx s20 s21 wr => ∃ (i j : Nat), s20 = .int .i64 i ∧ s21 = .int .i64 j ∧ lo ≤ i ∧ i ≤ j ∧ j ≤ hi ∧ Aside (kx = j - i) ∧ Aside (SB enc k w0 blk off d wr) ∧ Aside (Bin (fun c => !ltOf cf d[mid + m - 1 - c]! d[c]!) lo hi i j))
  case atStart => exact ⟨lo, hi, rfl, rfl, Nat.le_refl _, f2, Nat.le_refl _, rfl, S0, B0⟩
  case round =>
   clear S0 B0
   obtain ⟨i, j, rfl, rfl, hmi, hij, hjb, HK, S1, HB⟩ := hrel
   by_cases hlt : i < j
   ·have hltz : (i : Int) < (j : Int) := by omega
    obtain ⟨c, hh, hih, hhj⟩ := half_nat i j (by omega) hlt
    obtain ⟨g1, g2, g3⟩ := F7.out c (by omega) (by omega)
    have q1 : c ≤ pp := by have := HPP.out; omega
    have q2 : pp - c < b := by have := HPP.out; omega
    have q3 : mid + m - 1 - c = pp - c := by have := HPP.out; omega
    have Q3 := aside (q3)
    clear g1 g2 g3 q3
    have e0 : ((pp : Int) - (c : Int)).toNat = pp - c := by omega
    have p0 : (0 : Int) ≤ (pp : Int) - (c : Int) := by omega
    have rP : IntKind.i64.wrap ((pp : Int) - (c : Int)) = (pp : Int) - (c : Int) := by rw [IntKind.wrap_i64]; omega
    have b0 : (pp : Int) - (c : Int) < (d.size : Int) := by omega
    have pH : (0 : Int) ≤ (c : Int) := by omega
    have bH : (c : Int) < (d.size : Int) := by omega
    have lh : ∀ p : SBW enc k w0 blk off d, Sem.run P (loadCellsFrom ⟨blk, off + (pp - c) * k, none⟩ 0 k #[]) p.w = .ok (enc d[pp - c]!).toArray p.w := fun p => p.h.load RR.out HS.out.symm P (pp - c) (by omega)
    have la : ∀ p : SBW enc k w0 blk off d, Sem.run P (loadCellsFrom ⟨blk, off + c * k, none⟩ 0 k #[]) p.w = .ok (enc d[c]!).toArray p.w := fun p => p.h.load RR.out HS.out.symm P c (by omega)
    have hcg : ∀ p : SBW enc k w0 blk off d, Calls P g (#[.agg (enc d[pp - c]!).toArray, .agg (enc d[c]!).toArray] ++ cb) p.w fun e w' => e = .returned (.int .i64 (cf d[pp - c]! d[c]!)) ∧ ∃ q : SBW enc k w0 blk off d, w' = q.w := fun p => HC.out.at p rfl _ _
    have HR : Aside (∀ v, ltOf cf d[pp - c]! d[c]! = v → (if v = true then Bin (fun c => !ltOf cf d[mid + m - 1 - c]! d[c]!) lo hi i c else Bin (fun c => !ltOf cf d[mid + m - 1 - c]! d[c]!) lo hi (c + 1) j)) := fun v hv => by
     cases v with
     | true => exact HB.out.left hih hhj (by simp only [Q3.out]; simp [hv])
     | false => exact HB.out.right hih hhj (by simp only [Q3.out]; simp [hv])
    obtain ⟨x, hx⟩ : ∃ x, d[pp - c]! = x := ⟨_, rfl⟩
    obtain ⟨y, hy⟩ : ∃ y, d[c]! = y := ⟨_, rfl⟩
    rw [hx] at lh hcg
    rw [hy] at la hcg
    have HX : Aside (d[pp - c]! = x) := hx
    have HY : Aside (d[c]! = y) := hy
    clear hx hy
    by_cases hlv : cf x y < 0
    ·have HL : Aside (ltOf cf d[pp - c]! d[c]! = true) := by show _ = _; rw [HX.out, HY.out]; exact decide_eq_true hlv
     go_wp2_with fail
     haveI : Inhabited (SBW enc k w0 blk off d) := ⟨⟨_, S1.out⟩⟩
     refine wp_region_sb S1.out (by assumption) (by kernel_rfl) ?_
     repeat (quiet_step ((go_at_fn g; exact hcg _)))
     refine wpQuiet_nil ?_
     intro _ hw'
     obtain ⟨p, rfl⟩ := hw'
     go_wp2_with fail
     go_roundg (c - i)
     case measure => have := HK.out; omega
     case rel => exact ⟨i, c, rfl, rfl, hmi, by omega, by omega, rfl, p.h, HR.out true HL.out⟩
    ·have HL : Aside (ltOf cf d[pp - c]! d[c]! = false) := by show _ = _; rw [HX.out, HY.out]; exact decide_eq_false hlv
     have hdn : decide (cf x y < 0) = false := decide_eq_false hlv
     go_wp2_with fail
     haveI : Inhabited (SBW enc k w0 blk off d) := ⟨⟨_, S1.out⟩⟩
     refine wp_region_sb S1.out (by assumption) (by kernel_rfl) ?_
     repeat (quiet_step ((go_at_fn g; exact hcg _)))
     refine wpQuiet_nil ?_
     intro _ hw'
     obtain ⟨p, rfl⟩ := hw'
     go_wp2_with fail
     go_roundg (j - (c + 1))
     case measure => have := HK.out; omega
     case rel => exact ⟨c + 1, j, by go_num, rfl, by omega, by omega, hjb, rfl, p.h, HR.out false HL.out⟩
   ·have hi' : j = i := by omega
    subst hi'
    have hP : Parts (ltOf cf) a m b mid j (mid + m - j) U V := HT.out.parts HO.out HM.out HB.out
    have HP : Aside (Parts (ltOf cf) a m b mid j (mid + m - j) U V) := hP
    have eE : ∃ e : Nat, (mid : Int) + (m : Int) - (j : Int) = (e : Int) ∧ mid + m - j = e := ⟨mid + m - j, by omega, rfl⟩
    obtain ⟨e, eE, he⟩ := eE
    rw [he] at hP HP
    have k1 := hP.sa; have k2 := hP.sm; have k3 := hP.smid; have k4 := hP.me; have k5 := hP.eb; have k6 := hP.mide
    clear HB HK he hP F7
    go_upto_region 39 with fail
    go_cut [185] from 178 to 184 (fun s wx => s = .bool (decide (j < m) && decide (m < e)) ∧ wx = wr)
    case first =>
     by_cases h1 : j < m
     ·go_wp2_with fail
      go_meet
      exact ⟨by simp [h1], rfl⟩
     ·go_wp2_with fail
      go_meet
      exact ⟨by simp [h1], rfl⟩
    case rest =>
     obtain ⟨rfl, rfl⟩ := hcut
     go_upto_if 185 with fail
     go_cut [] from 185 to 191 (fun wx => ∃ d1 : Array α, Aside (St1 U V pre post a m j e d.size d1) ∧ Aside (SB enc k w0 blk off d1 wx))
     case first =>
      by_cases h1 : j < m
      ·by_cases h2 : m < e
       ·have hc := rotate_w LL.out k aE zE enc g cb blk off cap j m e d0 d w0 _ RR.out HS.out S1.out h1 h2 (by omega) hsz _ (HP.out.left HT.out.la HT.out.list)
        have HC2 := aside (hc)
        clear hc
        go_wp2_with (go_at_fn 180; refine HC2.out.mono ?_; rintro e1 w1 ⟨rfl, d1, hd1, hd2, hd3⟩)
        go_meet
        exact ⟨d1, ⟨hd1, hd2⟩, hd3⟩
       ·go_wp2_with fail
        go_meet
        exact ⟨d, HP.out.st1_none HT.out.list rfl (fun h => h2 h.2), S1⟩
      ·go_wp2_with fail
       go_meet
       exact ⟨d, HP.out.st1_none HT.out.list rfl (fun h => h1 h.1), S1⟩
     case rest =>
      clear S1
      obtain ⟨d1, HD1, S1⟩ := hcut
      go_upto_region 41 with fail
      go_cut [199] from 192 to 198 (fun s wx => s = .bool (decide (a < j) && decide (j < mid)) ∧ wx = wc)
      case first =>
       by_cases h1 : a < j
       ·go_wp2_with fail
        go_meet
        exact ⟨by simp [h1], rfl⟩
       ·go_wp2_with fail
        go_meet
        exact ⟨by simp [h1], rfl⟩
      case rest =>
       obtain ⟨rfl, rfl⟩ := hcut
       go_upto_if 199 with fail
       go_cut [] from 199 to 205 (fun wx => ∃ d2 : Array α, Aside (St2 (ltOf cf) U V pre post a m j e d.size d2) ∧ Aside (SB enc k w0 blk off d2 wx))
       case first =>
        by_cases h1 : a < j
        ·by_cases h2 : j < mid
         ·have hc := HI.out a j mid d1 _ (by omega) HD1.out.2 h1 h2 (by omega) S1.out _ _ _ _ (HD1.out.two HP.out HT.out.la)
          rw [HD1.out.2] at hc
          have HC2 := aside (hc)
          clear hc
          go_wp2_with (go_at_fn 176; refine HC2.out.mono ?_; rintro e1 w1 ⟨rfl, d2, hd1, hd2, hd3⟩)
          go_meet
          exact ⟨d2, St2.of hd1 hd2, hd3⟩
         ·go_wp2_with fail
          go_meet
          exact ⟨d1, HD1.out.none HP.out (fun h => h2 h.2), S1⟩
        ·go_wp2_with fail
         go_meet
         exact ⟨d1, HD1.out.none HP.out (fun h => h1 h.1), S1⟩
       case rest =>
        clear S1 HD1
        obtain ⟨d2, HD2, S2⟩ := hcut
        by_cases h1 : mid < e
        ·by_cases h2 : e < b
         ·have hc := HI.out mid e b d2 _ (by omega) HD2.out.2 h1 h2 (by omega) S2.out _ _ _ _ (HD2.out.two HP.out HT.out.la)
          rw [HD2.out.2] at hc
          have HC2 := aside (hc)
          clear hc
          go_wp2_with (go_at_fn 176; refine HC2.out.mono ?_; rintro e1 w1 ⟨rfl, d3, hd1, hd2, hd3⟩)
          go_end0
          have h3 := St3.of (post := post) (n := d.size) HP.out hd1 hd2
          exact ⟨rfl, d3, h3.1, h3.2, hd3⟩
         ·go_wp2_with fail
          go_end0
          have h3 := HD2.out.none HP.out (fun h => h2 h.2)
          exact ⟨rfl, d2, h3.1, h3.2, S2.out⟩
        ·go_wp2_with fail
         go_end0
         have h3 := HD2.out.none HP.out (fun h => h1 h.1)
         exact ⟨rfl, d2, h3.1, h3.2, S2.out⟩
/-- Two sorted neighbours in one. -/
theorem symMerge_w (L : StLays P) (k : Nat) (aE : ∀ w, (isAgg 62).run P w = .ok true w) (zE : ∀ w, (Go.sizeOf 62).run P w = .ok k w) (enc : α → List Value) (cf : α → α → Int) (g : Nat) (cb : Array Value) (eg : ∀ args w, (callFunc g args).run P w = .ok (.enter g args) w)
  (blk off cap n : Nat) (d0 : Array α) (w0 : World) (R : RowK enc k w0 blk off d0) (hs : d0.size = n) (hC : CmpB P g cb enc k cf blk off n w0) (O : Stable.Ord (ltOf cf)) (hsz : n < 4611686018427387904) :
  ∀ (q a m b : Nat) (d : Array α) (w : World), b - a ≤ q → d.size = n → a < m → m < b → b ≤ n → SB enc k w0 blk off d w → SymDoes P enc k (ltOf cf) g cb blk off cap a m b d w0 w
 | 0, a, m, b, d, w, hq, _, h1, h2, _, _ => by omega
 | q + 1, a, m, b, d, w, hq, hd, h1, h2, hb, S => by
  subst hd
  intro pre U V post T
  by_cases c1 : m = a + 1
  ·exact symLeft_w L k aE zE enc cf g cb eg blk off cap a m b d0 d w0 w R hs hC O S c1 h2 hb hsz pre U V post T
  ·by_cases c2 : b = m + 1
   ·exact symRight_w L k aE zE enc cf g cb eg blk off cap a m b d0 d w0 w R hs hC O S (by omega) c2 hb hsz pre U V post T
   ·exact symMid_w L k aE zE enc cf g cb eg blk off cap a m b d0 d w0 w R hs hC O S (by omega) (by omega) hb hsz pre U V post T
     (fun a' m' b' d' w' hlt hd' x1 x2 x3 S' => symMerge_w L k aE zE enc cf g cb eg blk off cap _ d0 w0 R hs hC O hsz q a' m' b' d' w' (by omega) hd' x1 x2 (by omega) S')
variable {P : Program} {α : Type} [Inhabited α]
theorem insertion_w (L : StLays P) (k : Nat) (aE : ∀ w, (isAgg 62).run P w = .ok true w) (zE : ∀ w, (Go.sizeOf 62).run P w = .ok k w) (enc : α → List Value) (cf : α → α → Int) (g : Nat) (cb : Array Value) (eg : ∀ args w, (callFunc g args).run P w = .ok (.enter g args) w)
  (blk off cap a b n : Nat) (d0 d : Array α) (w0 w : World)
  (R : RowK enc k w0 blk off d0) (hs : d0.size = n) (hn : d.size = n) (hC : CmpB P g cb enc k cf blk off n w0) (O : Stable.Ord (ltOf cf)) (S : SB enc k w0 blk off d w) (hsz : n < 4611686018427387904)
  (pre seg post : List α) (T : d.toList = pre ++ (seg ++ post)) (la : pre.length = a) (lb : seg.length + a = b) :
  Calls P 175 #[.slice (some ⟨blk, off, none⟩) n cap, .int .i64 a, .int .i64 b, .func (.func g) #[] cb] w fun e w' => e = .returned (.tuple #[]) ∧ ∃ d', d'.toList = pre ++ (isort (ltOf cf) seg ++ post) ∧ d'.size = n ∧ SB enc k w0 blk off d' w' := by
 have hbn : b ≤ n := by
  have h1 : d.toList.length = n := by rw [Array.length_toList]; exact hn
  rw [T] at h1; simp at h1; omega
 have mixed := L.mixed; have t3 := L.t3; have a3 := L.a3; have z3 := L.z3; have v3 := L.v3; have t4 := L.t4; have a4 := L.a4; have z4 := L.z4; have v4 := L.v4; have t22 := L.t22; have a22 := L.a22; have z22 := L.z22; have t45 := L.t45
 have FG := L.f33
 have HC : Aside (CmpB P g cb enc k cf blk off n w0) := hC
 have HO : Aside (Stable.Ord (ltOf cf)) := O
 have RR : Aside (RowK enc k w0 blk off d0) := R
 have HS : Aside (d0.size = n) := hs
 have S0 : Aside (SB enc k w0 blk off d w) := S
 have T0 : Aside (Outer (ltOf cf) pre seg post a (a + 1) d) := Outer.start T
 have LA : Aside (pre.length = a) := la
 have LB : Aside (seg.length + a = b) := lb
 have hab : a ≤ b := by omega
 have HN : Aside (d.size = n) := hn
 clear hC O R hs S T la lb L hn
 go_enter FG, Tryz.ntmps175
 go_wp2_with fail
 go_loopg [8] (b - a) (fun g1 vi wr => ∃ (i : Nat) (dk : Array α), vi = .int .i64 i ∧ a < i ∧ i ≤ b + 1 ∧ b + 1 - i ≤ g1 + 1 ∧ Aside (dk.size = n) ∧ Aside (SB enc k w0 blk off dk wr) ∧ Aside (Outer (ltOf cf) pre seg post a i dk))
 case atStart => exact ⟨a + 1, d, by go_num, by omega, by omega, by omega, HN, S0, T0⟩
 case round =>
  clear S0 T0 HN
  obtain ⟨i, dk, rfl, hai, hib, hg1, HN, S1, HT⟩ := hrel
  by_cases hlt : i < b
  ·have hltz : (i : Int) < (b : Int) := by omega
   obtain ⟨xi, hIns, hOut⟩ := HT.out.next hai (by have := LB.out; omega)
   have HI := aside hIns
   have HOU := aside hOut
   clear hIns hOut HT
   obtain ⟨wo, hwo⟩ : ∃ wo : World, wo = wr := ⟨_, rfl⟩
   subst hwo
   go_wp2_with fail
   go_loopg [9] i (fun g2 vj wr2 => ∃ (j : Nat) (dj : Array α), vj = .int .i64 j ∧ a ≤ j ∧ j ≤ i ∧ j ≤ g2 ∧ Aside (dj.size = n) ∧ Aside (SB enc k w0 blk off dj wr2) ∧ Aside (Ins (ltOf cf) pre (isort (ltOf cf) (seg.take (i - a))) (seg.drop (i + 1 - a) ++ post) xi a j dj))
   case atStart => exact ⟨i, dk, rfl, by omega, Nat.le_refl _, Nat.le_refl _, HN, S1, HI⟩
   case round =>
    clear HN S1 HI
    obtain ⟨j, dj, rfl, haj, hji, hg2, HN, S1, HI⟩ := hrel
    have out : (j ≤ a ∨ ltOf cf dj[j]! dj[j - 1]! = false) → Outer (ltOf cf) pre seg post a (i + 1) dj := fun hst => HOU.out dj (HI.out.done HO.out LA.out (isort_sorted HO.out _) hst)
    have OUT := aside out
    clear out
    by_cases hja : a < j
    ·have hjaz : (a : Int) < (j : Int) := by omega
     obtain ⟨jp, rfl⟩ : ∃ jp, j = jp + 1 := ⟨j - 1, by omega⟩
     have hwp : IntKind.i64.wrap (jp : Int) = (jp : Int) := by rw [IntKind.wrap_i64]; omega
     have jz : (jp : Int) + 1 < (n : Int) := by omega
     have jz1 : (jp : Int) < (n : Int) := by omega
     have hjaz' : (a : Int) < (jp : Int) + 1 := by omega
     have p0 : (0 : Int) ≤ (jp : Int) + 1 := by omega
     have e0 : ((jp : Int) + 1).toNat = jp + 1 := by omega
     have hsd : dj.size = d0.size := by rw [HN.out, HS.out]
     have lj : ∀ p : SBW enc k w0 blk off dj, Sem.run P (loadCellsFrom ⟨blk, off + (jp + 1) * k, none⟩ 0 k #[]) p.w = .ok (enc dj[jp + 1]!).toArray p.w := fun p => p.h.load RR.out hsd P (jp + 1) (by have := HN.out; omega)
     have lp : ∀ p : SBW enc k w0 blk off dj, Sem.run P (loadCellsFrom ⟨blk, off + jp * k, none⟩ 0 k #[]) p.w = .ok (enc dj[jp]!).toArray p.w := fun p => p.h.load RR.out hsd P jp (by have := HN.out; omega)
     have hcg : ∀ p : SBW enc k w0 blk off dj, Calls P g (#[.agg (enc dj[jp + 1]!).toArray, .agg (enc dj[jp]!).toArray] ++ cb) p.w fun e w' => e = .returned (.int .i64 (cf dj[jp + 1]! dj[jp]!)) ∧ ∃ q : SBW enc k w0 blk off dj, w' = q.w := fun p => HC.out.at p HN.out _ _
     have HSD := aside hsd
     clear hsd
     obtain ⟨x, hx⟩ : ∃ x, dj[jp + 1]! = x := ⟨_, rfl⟩
     obtain ⟨y, hy⟩ : ∃ y, dj[jp]! = y := ⟨_, rfl⟩
     rw [hx] at lj hcg
     rw [hy] at lp hcg
     have HX := aside hx
     have HY := aside hy
     clear hx hy
     by_cases hlv : cf x y < 0
     ·have HL : Aside (ltOf cf dj[jp + 1]! dj[jp]! = true) := by show _ = _; rw [HX.out, HY.out]; exact decide_eq_true hlv
      go_wp2_with fail
      haveI : Inhabited (SBW enc k w0 blk off dj) := ⟨⟨_, S1.out⟩⟩
      refine wp_region_sb S1.out (by assumption) (by kernel_rfl) ?_
      repeat (quiet_step ((go_at_fn g; exact hcg _)))
      refine wpQuiet_nil ?_
      intro _ hw'
      obtain ⟨p, rfl⟩ := hw'
      go_wp2_with fail
      have S2 : Aside (SB enc k w0 blk off (swp dj (jp + 1) jp) ((p.w.drew.setCells blk (off + (jp + 1) * k) (enc dj[jp]!)).setCells blk (off + jp * k) (enc dj[jp + 1]!))) := p.h.swapped RR.out (jp + 1) jp (by have := HN.out; omega) (by have := HN.out; omega)
      have la := p.h.ld1 RR.out HSD.out P (jp + 1) (by have := HN.out; omega)
      have lb := p.h.ld1 RR.out HSD.out P jp (by have := HN.out; omega)
      have sa := p.h.st1 RR.out HSD.out P (jp + 1) (by have := HN.out; omega) dj[jp]!
      have sb := p.h.st2 RR.out HSD.out P (jp + 1) jp (by have := HN.out; omega) (by have := HN.out; omega) dj[jp]! dj[jp + 1]!
      have na : (enc dj[jp + 1]!).length = k := RR.out.hk _
      have nb : (enc dj[jp]!).length = k := RR.out.hk _
      generalize enc dj[jp + 1]! = cI at S2 la sb na
      generalize enc dj[jp]! = cJ at S2 lb sa sb nb
      clear S1 lj lp hcg
      generalize p.w = wp at S2 la lb sa sb ⊢
      clear p
      go_big_region_o
      clear la lb sa sb
      generalize (wp.drew.setCells blk (off + (jp + 1) * k) cJ).setCells blk (off + jp * k) cI = w2 at S2 ⊢
      go_wp2
      go_roundg jp
      case measure => omega
      case rel => exact ⟨jp, swp dj (jp + 1) jp, by first | rfl | go_num | (congr 1; omega), by omega, by omega, Nat.le_refl _, (show _ = _ by rw [size_swp]; exact HN.out), S2, HI.out.step LA.out hja HL.out⟩
     ·have HL : Aside (ltOf cf dj[jp + 1]! dj[jp]! = false) := by show _ = _; rw [HX.out, HY.out]; exact decide_eq_false hlv
      have hdn : decide (cf x y < 0) = false := decide_eq_false hlv
      go_wp2_with fail
      haveI : Inhabited (SBW enc k w0 blk off dj) := ⟨⟨_, S1.out⟩⟩
      refine wp_region_sb S1.out (by assumption) (by kernel_rfl) ?_
      repeat (quiet_step ((go_at_fn g; exact hcg _)))
      refine wpQuiet_nil ?_
      intro _ hw'
      obtain ⟨p, rfl⟩ := hw'
      go_wp2
      go_roundg (b - (i + 1))
      case measure => omega
      case rel => exact ⟨i + 1, dj, by go_num, by omega, by omega, by omega, HN, p.h, OUT.out (.inr (by simpa using HL.out))⟩
    ·have hjaz : decide ((j : Int) > (a : Int)) = false := decide_eq_false (by omega)
     have hjaz' : ¬ (a : Int) < (j : Int) := by omega
     have S2 : Aside (SB enc k w0 blk off dj wr.drew) := S1.out.drew
     clear S1
     go_wp2_with fail
     go_big_region_o
     all_goals go_wp2
     go_roundg (b - (i + 1))
     case measure => omega
     case rel => exact ⟨i + 1, dj, by go_num, by omega, by omega, by omega, HN, S2, OUT.out (.inl (by omega))⟩
  ·have hltz : ¬ (i : Int) < (b : Int) := by omega
   go_wp2
   go_end0
   exact ⟨rfl, dk, HT.out.done (by have := LB.out; omega), HN.out, S1.out⟩
variable {P : Program} {α : Type} [Inhabited α]
theorem stable_w (L : StLays P) (k : Nat) (aE : ∀ w, (isAgg 62).run P w = .ok true w) (zE : ∀ w, (Go.sizeOf 62).run P w = .ok k w) (enc : α → List Value) (cf : α → α → Int) (g : Nat) (cb : Array Value) (eg : ∀ args w, (callFunc g args).run P w = .ok (.enter g args) w)
  (blk off cap n : Nat) (d0 : Array α) (w0 : World)
  (R : RowK enc k w0 blk off d0) (hs : d0.size = n) (hC : CmpB P g cb enc k cf blk off n w0) (O : Stable.Ord (ltOf cf)) (hsz : n < 1152921504606846976) :
  Calls P 166 #[.slice (some ⟨blk, off, none⟩) n cap, .int .i64 n, .func (.func g) #[] cb] w0 fun e w' => e = .returned (.tuple #[]) ∧ ∃ d' : Array α, d'.toList = isort (ltOf cf) d0.toList ∧ d'.size = n ∧ SB enc k w0 blk off d' w' := by
 have mixed := L.mixed; have t3 := L.t3; have a3 := L.a3; have z3 := L.z3; have v3 := L.v3; have t4 := L.t4; have a4 := L.a4; have z4 := L.z4; have v4 := L.v4; have t22 := L.t22; have a22 := L.a22; have z22 := L.z22; have t45 := L.t45
 have FG := L.f30
 have e33 := L.e33
 have e34 := L.e34
 have hl : d0.toList.length = n := by rw [Array.length_toList]; exact hs
 have INS : Aside (∀ (a b : Nat) (d : Array α) (w : World) (pre seg post : List α), d.size = n → SB enc k w0 blk off d w → d.toList = pre ++ (seg ++ post) → pre.length = a → seg.length + a = b →
  Calls P 175 #[.slice (some ⟨blk, off, none⟩) n cap, .int .i64 a, .int .i64 b, .func (.func g) #[] cb] w fun e w' => e = .returned (.tuple #[]) ∧ ∃ d', d'.toList = pre ++ (isort (ltOf cf) seg ++ post) ∧ d'.size = n ∧ SB enc k w0 blk off d' w') :=
  fun a b d w pre seg post hn S T la lb => insertion_w L k aE zE enc cf g cb eg blk off cap a b n d0 d w0 w R hs hn hC O S (by omega) pre seg post T la lb
 have SYM : Aside (∀ (a m b : Nat) (d : Array α) (w : World) (pre U V post : List α), d.size = n → a < m → m < b → b ≤ n → SB enc k w0 blk off d w → Two (ltOf cf) a m b pre U V post d →
  Calls P 176 #[.slice (some ⟨blk, off, none⟩) n cap, .int .i64 a, .int .i64 m, .int .i64 b, .func (.func g) #[] cb] w fun e w' => e = .returned (.tuple #[]) ∧ ∃ d', d'.toList = pre ++ (merge (ltOf cf) U V ++ post) ∧ d'.size = n ∧ SB enc k w0 blk off d' w') :=
  fun a m b d w pre U V post hn h1 h2 h3 S T => by
   have := symMerge_w L k aE zE enc cf g cb eg blk off cap n d0 w0 R hs hC O (by omega) (b - a) a m b d w (Nat.le_refl _) hn h1 h2 h3 S pre U V post T
   rw [hn] at this
   exact this
 have S0 : Aside (SB enc k w0 blk off d0 w0) := SB.start R.hH
 have P0 : Aside (Pass0 (ltOf cf) 20 d0.toList 0 d0) := Pass0.start 20 d0
 have HO := aside O
 have HL := aside hl
 have HS0 := aside hs
 clear hC O R hs L hl eg
 go_enter FG, Tryz.ntmps166
 go_wp2_with fail
 go_loopg [7, 8] n (fun kx s7 s8 wr => ∃ (a : Nat) (d : Array α), s7 = .int .i64 a ∧ s8 = .int .i64 ((a + 20 : Nat) : Int) ∧ a ≤ n ∧ Aside (kx = n - a) ∧ Aside (d.size = n) ∧ Aside (SB enc k w0 blk off d wr) ∧ Aside (Pass0 (ltOf cf) 20 d0.toList a d))
 case atStart => exact ⟨0, d0, rfl, rfl, Nat.zero_le _, rfl, HS0, S0, P0⟩
 case round =>
  clear S0 P0 HS0
  obtain ⟨a, d, rfl, rfl, han, HK, HN, S1, HP⟩ := hrel
  by_cases hb : a + 20 ≤ n
  ·obtain ⟨pre, seg, post, hd, hpre, hseg, hnext⟩ := HP.out.next (by rw [HL.out]; exact hb)
   have hc := INS.out a (a + 20) d wr pre seg post HN.out S1.out hd hpre (by omega)
   have HC2 := aside hc
   have HX := aside hnext
   clear hc hnext hd hseg hpre
   go_wp2_with (go_at_fn 175; refine HC2.out.mono ?_; rintro e1 w1 ⟨rfl, d1, hd1, hd2, hd3⟩)
   have Q1 := aside (HX.out d1 hd1)
   have Q2 := aside hd2
   have Q3 := aside hd3
   clear hd1 hd2 hd3
   go_roundg (n - (a + 20))
   case measure => have := HK.out; omega
   case rel => exact ⟨a + 20, d1, by go_num, by go_num, hb, rfl, Q2, Q3, Q1⟩
  ·obtain ⟨pre, seg, hd, hpre, hseg, hnext⟩ := HP.out.last (by rw [HL.out]; exact hb)
   have hc := INS.out a n d wr pre seg [] HN.out S1.out hd hpre (by have := HL.out; omega)
   have HC2 := aside hc
   have HX := aside hnext
   clear hc hnext hd hseg hpre
   go_wp2_with (go_at_fn 175; refine HC2.out.mono ?_; rintro e1 w1 ⟨rfl, d1, hd1, hd2, hd3⟩)
   have Q1 : Aside (Blk (ltOf cf) 20 d0.toList d1.toList) := HX.out d1 hd1
   have Q2 := aside hd2
   have Q3 := aside hd3
   clear hd1 hd2 hd3 HX HC2 HP S1 HN HK
   go_loopg [6, 7, 8] (n - 20) (fun kx s6 s7 s8 wr2 => ∃ (s : Nat) (d : Array α), s6 = .int .i64 s ∧ 1 ≤ s ∧ s ≤ 2 * n + 20 ∧ Aside (kx = n - s) ∧ Aside (d.size = n) ∧ Aside (SB enc k w0 blk off d wr2) ∧ Aside (Blk (ltOf cf) s d0.toList d.toList))
   case atStart => exact ⟨20, d1, rfl, by omega, by omega, rfl, Q2, Q3, Q1⟩
   case round =>
    clear Q1 Q2 Q3
    obtain ⟨s, d, rfl, hs1, hs2, HK, HN, S1, HB⟩ := hrel
    by_cases hsn : s < n
    ·have hsz' : (s : Int) < (n : Int) := by omega
     obtain ⟨wo, hwo⟩ : ∃ wo : World, wo = wr := ⟨_, rfl⟩
     subst hwo
     have P1 : Aside (Pass (ltOf cf) s d0.toList 0 d) := Pass.start HB.out
     go_wp2_with fail
     go_loopg [7, 8] n (fun kx s7 s8 wr2 => ∃ (a b : Nat) (d : Array α), s7 = .int .i64 a ∧ s8 = .int .i64 b ∧ a ≤ n ∧ b ≤ a + 2 * s ∧ a + 2 * s ≤ b ∧ Aside (kx = n - a) ∧ Aside (d.size = n) ∧ Aside (SB enc k w0 blk off d wr2) ∧ Aside (Pass (ltOf cf) s d0.toList a d))
     case atStart => exact ⟨0, 2 * s, d, rfl, by first | rfl | go_num | (congr 1; omega), Nat.zero_le _, by omega, by omega, rfl, HN, S1, P1⟩
     case round =>
      clear P1 HN S1 HB
      obtain ⟨a, b, d, rfl, rfl, han, hb1, hb2, HK2, HN, S1, HP⟩ := hrel
      obtain ⟨m, em, hm1, hm2⟩ : ∃ m : Nat, (a : Int) + (s : Int) = (m : Int) ∧ m ≤ a + s ∧ a + s ≤ m := ⟨a + s, by omega, by omega, by omega⟩
      obtain ⟨b2, eb2, hb3, hb4⟩ : ∃ b2 : Nat, (b : Int) + 2 * (s : Int) = (b2 : Int) ∧ b2 ≤ b + 2 * s ∧ b + 2 * s ≤ b2 := ⟨b + 2 * s, by omega, by omega, by omega⟩
      by_cases hb : b ≤ n
      ·obtain ⟨pre, U, V, post, hT, hnext⟩ := HP.out.next HO.out (by rw [HL.out]; omega)
       rw [show a + s = m by omega, show a + 2 * s = b by omega] at hT
       rw [show a + 2 * s = b by omega] at hnext
       have hc := SYM.out a m b d wr pre U V post HN.out (by omega) (by omega) hb S1.out hT
       have HC2 := aside hc
       have HX := aside hnext
       clear hc hnext hT
       go_wp2_with (go_at_fn 176; refine HC2.out.mono ?_; rintro e1 w1 ⟨rfl, d1, hd1, hd2, hd3⟩)
       have Q1 := aside (HX.out d1 hd1)
       have Q2 := aside hd2
       have Q3 := aside hd3
       clear hd1 hd2 hd3
       go_roundg (n - b)
       case measure => have := HK2.out; omega
       case rel => exact ⟨b, b2, d1, rfl, rfl, hb, by omega, by omega, rfl, Q2, Q3, Q1⟩
      ·by_cases hm : m < n
       ·obtain ⟨pre, U, V, hT, hnext⟩ := HP.out.last HO.out (by rw [HL.out]; omega) (by rw [HL.out]; omega)
        rw [HL.out, show a + s = m by omega] at hT
        have hc := SYM.out a m n d wr pre U V [] HN.out (by omega) hm (Nat.le_refl _) S1.out hT
        have HC2 := aside hc
        have HX := aside hnext
        clear hc hnext hT
        go_wp2_with (go_at_fn 176; refine HC2.out.mono ?_; rintro e1 w1 ⟨rfl, d1, hd1, hd2, hd3⟩)
        have Q1 := aside (HX.out d1 hd1)
        have Q2 := aside hd2
        have Q3 := aside hd3
        clear hd1 hd2 hd3
        go_roundg (n - 2 * s)
        case measure => have := HK.out; omega
        case rel => exact ⟨2 * s, d1, by first | go_num | (congr 1; omega), by omega, by omega, rfl, Q2, Q3, Q1⟩
       ·have Q1 := aside (HP.out.none (by rw [HL.out]; omega) (by rw [HL.out]; omega))
        go_wp2_with fail
        go_roundg (n - 2 * s)
        case measure => have := HK.out; omega
        case rel => exact ⟨2 * s, d, by first | go_num | (congr 1; omega), by omega, by omega, rfl, HN, S1, Q1⟩
    ·go_wp2_with fail
     go_end0
     exact ⟨rfl, d, HB.out.whole (by rw [HL.out]; omega), HN.out, S1.out⟩
open Go.Proofs.YtcmiehddjgfjaaaGreatW.PrintWords Go.Proofs.YtcmiehddjgfjaaaGreatW.PrintLast Go.Proofs.YtcmiehddjgfjaaaGreatW.PrintMore
theorem lays : StLays Tryz.prog where
 mixed := by kernel_rfl
 f30 := Tryz.func166
 f33 := Tryz.func175
 f34 := Tryz.func176
 f36 := Tryz.func180
 f37 := Tryz.func183
 e33 := enters_of Tryz.func175 (by kernel_rfl) rfl
 e34 := enters_of Tryz.func176 (by kernel_rfl) rfl
 e36 := enters_of Tryz.func180 (by kernel_rfl) rfl
 e37 := enters_of Tryz.func183 (by kernel_rfl) rfl
 t3 := Tryz.underlying3
 a3 := Tryz.isAgg3
 z3 := Tryz.sizeOf3
 v3 := Tryz.zeroValue3
 t4 := Tryz.underlying4
 a4 := Tryz.isAgg4
 z4 := Tryz.sizeOf4
 v4 := Tryz.zeroValue4
 t53 := Tryz.underlying141
 a53 := Tryz.isAgg141
 z53 := Tryz.sizeOf141
 t22 := Tryz.underlying35
 a22 := Tryz.isAgg35
 z22 := Tryz.sizeOf35
 t45 := Tryz.underlying115
 a45 := Tryz.isAgg115
 z45 := Tryz.sizeOf115
theorem ins_none (A : Option Addr) (c g : Nat) (cb : Array Value) (w : World) :
  Calls Tryz.prog 175 #[.slice A 0 c, .int .i64 0, .int .i64 0, .func (.func g) #[] cb] w fun e w' => e = .returned (.tuple #[]) ∧ w' = w := by
 go_enter Tryz.func175, Tryz.ntmps175
 go_wp2_with fail
 go_loopg [8, 9] 0 (fun kq v8 v9 w' => v8 = .int .i64 1 ∧ w' = w)
 case atStart => exact ⟨rfl, rfl⟩
 case round =>
  obtain ⟨rfl, rfl⟩ := hrel
  go_wp2
  go_end0; exact ⟨rfl, rfl⟩
theorem stable_none (A : Option Addr) (c g : Nat) (cb : Array Value) (w : World) :
  Calls Tryz.prog 166 #[.slice A 0 c, .int .i64 0, .func (.func g) #[] cb] w fun e w' => e = .returned (.tuple #[]) ∧ w' = w := by
 go_enter Tryz.func166, Tryz.ntmps166
 go_wp2_with fail
 go_loopg [7, 8] 0 (fun kq v7 v8 w' => v7 = .int .i64 0 ∧ v8 = .int .i64 20 ∧ w' = w)
 case atStart => exact ⟨rfl, rfl, rfl⟩
 case round =>
  obtain ⟨rfl, rfl, rfl⟩ := hrel
  go_wp2_with fail
  refine (ins_none A c g cb wr).mono ?_
  rintro e w' ⟨rfl, rfl⟩
  go_wp2_with fail
  go_loopg [6, 7, 8, 9] 0 (fun kq v6 v7 v8 v9 w1 => v6 = .int .i64 20 ∧ w1 = w')
  case atStart => exact ⟨rfl, rfl⟩
  case round =>
   obtain ⟨rfl, rfl⟩ := hrel
   go_wp2
   go_end0; exact ⟨rfl, rfl⟩
/-- 'cmp' tells the order of two elements, in whatever world in which they can be read. -/
def CmpTells {α : Type} (d : Kd α) (g : Nat) (cb : Array Value) (cmp : α → α → Int) : Prop :=
 ∀ (W : World) (base : Nat) (ok : Nat → Prop) (x y : α) (cs ds : List Value), d.M W base ok x cs → d.M W base ok y ds →
  Calls Tryz.prog g (#[.agg cs.toArray, .agg ds.toArray] ++ cb) W fun e w' => e = .returned (.int .i64 (cmp x y)) ∧ Below W.heap.size W w'
theorem stable_R {α : Type} (d : Kd α) (hz : 0 < d.sz) (zE : ∀ w, (Go.sizeOf 62).run Tryz.prog w = .ok d.sz w) (cmp : α → α → Int) (g : Nat) (cb : Array Value) (eg : ∀ args w, (callFunc g args).run Tryz.prog w = .ok (.enter g args) w)
  (O : Stable.Ord (ltOf cmp)) (hcmp : CmpTells d g cb cmp) {w0 : World} {base : Nat} {ok : Nat → Prop} {v : Value} {xs : List α} (h : Kd.R d 62 w0 base ok v xs) (hl : xs.length < 1152921504606846976) :
  Calls Tryz.prog 166 #[v, .int .i64 xs.length, .func (.func g) #[] cb] w0 fun e w' => e = .returned (.tuple #[]) ∧ Kd.R d 62 w' base ok v (isort (ltOf cmp) xs) ∧ Below base w0 w' := by
 obtain ⟨A, c, rfl⟩ := Kd.R_slice h
 by_cases hx : xs = []
 ·subst hx
  refine (stable_none A c g cb w0).mono ?_
  rintro e w' ⟨rfl, rfl⟩
  exact ⟨rfl, h, Below.refl _ _⟩
 ·obtain ⟨ad, _, he⟩ := Kd.R_slice1 h (List.length_pos_iff.2 hx)
  injection he with he1 _ _
  subst he1
  obtain ⟨blk, rfl⟩ := Kd.R_head h
  obtain ⟨I, d0, hm, hs, hb, R⟩ := row_in h hx hz
  have hC : CmpB Tryz.prog g cb (elc (d := d) (w := w0) (base := base) (ok := ok) (g := blk)) d.sz (fun x y => cmp (elv x) (elv y)) blk 0 xs.length w0 := by
   intro dk W hdk hS x y
   exact hcmp W base _ _ _ _ _ (Kd.M_step x.2 (fun k hk hlt => hS.other hlt (fun e => hk.2 (by rw [e])))) (Kd.M_step y.2 (fun k hk hlt => hS.other hlt (fun e => hk.2 (by rw [e]))))
  have O' : Stable.Ord (ltOf (fun x y : El d w0 base ok blk => cmp (elv x) (elv y))) := ord_map elv O
  refine (stable_w lays d.sz Tryz.isAgg62 zE elc (fun x y => cmp (elv x) (elv y)) g cb eg blk 0 c xs.length d0 w0 R hs hC O' hl).mono ?_
  rintro e w' ⟨rfl, d', hd', hn, hS⟩
  obtain ⟨h1, h2⟩ := row_out h hx hn hS
  have e1 : d'.toList.map elv = isort (ltOf cmp) xs := by
   rw [hd', ← hm]
   exact isort_map elv (ltOf cmp) d0.toList
  rw [e1] at h1
  exact ⟨rfl, h1, h2 base hb⟩
/-- slices.SortStableFunc. -/
theorem sortStable_R {α : Type} (d : Kd α) (hz : 0 < d.sz) (zE : ∀ w, (Go.sizeOf 62).run Tryz.prog w = .ok d.sz w) (cmp : α → α → Int) (g : Nat) (cb : Array Value) (eg : ∀ args w, (callFunc g args).run Tryz.prog w = .ok (.enter g args) w)
  (O : Stable.Ord (ltOf cmp)) (hcmp : CmpTells d g cb cmp) {w0 : World} {base : Nat} {ok : Nat → Prop} {v : Value} {xs : List α} (h : Kd.R d 62 w0 base ok v xs) (hl : xs.length < 1152921504606846976) :
  Calls Tryz.prog 144 #[v, .func (.func g) #[] cb] w0 fun e w' => e = .returned (.tuple #[]) ∧ Kd.R d 62 w' base ok v (isort (ltOf cmp) xs) ∧ Below base w0 w' := by
 have hc := stable_R d hz zE cmp g cb eg O hcmp h hl
 obtain ⟨A, c, rfl⟩ := Kd.R_slice h
 have HC := aside hc
 clear hc h hcmp O eg zE
 go_enter Tryz.func144, Tryz.ntmps144
 go_wp2_with fail
 refine HC.out.mono ?_
 rintro e w' ⟨rfl, h1, h2⟩
 go_wp2
 go_end0
 exact ⟨rfl, h1, h2⟩
end Go.Proofs.YtcmiehddjgfjaaaGreat.St.GSl
namespace Go.Proofs.YtcmiehddjgfjaaaGreat.A
open Go.RowKit Go.Proofs.YtcmiehddjgfjaaaGreatW.PrintWords Go.Proofs.YtcmiehddjgfjaaaGreatW.PrintLast Go.Proofs.YtcmiehddjgfjaaaGreatW.PrintMore Go.Proofs.YtcmiehddjgfjaaaGreat.St Go.Proofs.YtcmiehddjgfjaaaGreat.Stable
def cmpN (x y : Lab) : Int := cmpS x.f0 y.f0
theorem cmpN3 : Cmp3 cmpN := cmpS3.map S62.f0
/-- labels.Make. -/
def vMake (l : List Lab) : List Lab × Int := if l.any (fun x => !isLab x) = true then ([], 90) else if adjEq cmpN (isort (ltOf cmpN) l) = true then ([], 8) else if 16 < l.length then ([], 6) else (isort (ltOf cmpN) l, 0)
theorem setGo_some : ∀ (l : List Lab) (q : ByteArray), setGo (some q) l = true ↔ (∀ x ∈ l, isLab x = true) ∧ Strict cmpN l ∧ (∀ x ∈ l, cmpS q x.f0 < 0)
 | [], q => by
  rw [setGo]
  exact ⟨fun _ => ⟨fun x h => (by cases h), List.Pairwise.nil, fun x h => (by cases h)⟩, fun _ => rfl⟩
 | x :: l, q => by
  rw [setGo, Bool.and_eq_true, Bool.and_eq_true, setGo_some l x.f0, less_cmpS, decide_eq_true_iff]
  constructor
  ·rintro ⟨h1, h2, h3, h4, h5⟩
   refine ⟨fun y hy => ?_, List.pairwise_cons.2 ⟨fun y hy => h5 y hy, h4⟩, fun y hy => ?_⟩
   ·rcases List.mem_cons.1 hy with rfl | hy
    ·exact h1
    ·exact h3 y hy
   ·rcases List.mem_cons.1 hy with rfl | hy
    ·exact h2
    ·exact cmpS3.lt_tr h2 (by have := h5 y hy; omega)
  ·rintro ⟨h1, h2, h3⟩
   obtain ⟨h4, h5⟩ := List.pairwise_cons.1 h2
   exact ⟨h1 x List.mem_cons_self, h3 x List.mem_cons_self, fun y hy => h1 y (List.mem_cons_of_mem _ hy), h5, fun y hy => h4 y hy⟩
theorem isSet_iff (l : List Lab) : isSet l = true ↔ (∀ x ∈ l, isLab x = true) ∧ Strict cmpN l ∧ l.length ≤ 16 := by
 unfold isSet
 rw [Bool.and_eq_true, decide_eq_true_iff]
 have : setGo none l = true ↔ (∀ x ∈ l, isLab x = true) ∧ Strict cmpN l := by
  cases l with
  | nil =>
   rw [setGo]
   exact ⟨fun _ => ⟨fun x h => (by cases h), List.Pairwise.nil⟩, fun _ => rfl⟩
  | cons x l =>
   rw [setGo, Bool.and_eq_true, setGo_some l x.f0]
   constructor
   ·rintro ⟨h1, h3, h4, h5⟩
    refine ⟨fun y hy => ?_, List.pairwise_cons.2 ⟨fun y hy => h5 y hy, h4⟩⟩
    rcases List.mem_cons.1 hy with rfl | hy
    ·exact h1
    ·exact h3 y hy
   ·rintro ⟨h1, h2⟩
    obtain ⟨h4, h5⟩ := List.pairwise_cons.1 h2
    exact ⟨h1 x List.mem_cons_self, fun y hy => h1 y (List.mem_cons_of_mem _ hy), h5, fun y hy => h4 y hy⟩
 rw [this]
 exact ⟨fun ⟨⟨a, b⟩, c⟩ => ⟨a, b, c⟩, fun ⟨a, b, c⟩ => ⟨⟨a, b⟩, c⟩⟩
theorem vMake_set {l : List Lab} (h : isSet l = true) : vMake l = (l, 0) := by
 obtain ⟨h1, h2, h3⟩ := (isSet_iff l).1 h
 have e := isort_id cmpN3 (h2.sorted cmpN3)
 unfold vMake
 rw [if_neg (by
  intro ha
  obtain ⟨x, hx, hb⟩ := List.any_eq_true.1 ha
  rw [h1 x hx] at hb
  cases hb), e, if_neg (by rw [adj_apart h2.apart]; simp), if_neg (by omega)]
/-- The code's 'isSet'. -/
theorem make_set (l : List Lab) : isSet l = true ↔ vMake l = (l, 0) := by
 refine ⟨vMake_set, fun h => ?_⟩
 unfold vMake at h
 split at h
 ·injection h with _ h; cases h
 ·rename_i h1
  split at h
  ·injection h with _ h; cases h
  ·rename_i h2
   split at h
   ·injection h with _ h; cases h
   ·rename_i h3
    injection h with h4 _
    refine (isSet_iff l).2 ⟨fun x hx => ?_, ?_, by omega⟩
    ·cases hb : isLab x with
     | true => rfl
     | false => exact absurd (List.any_eq_true.2 ⟨x, hx, by rw [hb]; rfl⟩) h1
    ·have hs := isort_sorted cmpN3.ord l
     rw [h4] at hs h2
     exact adj_sorted cmpN3 hs (by simpa using h2)
theorem lab_ext {x y : Lab} (h0 : x.f0 = y.f0) (h1 : x.f1 = y.f1) : x = y := by
 obtain ⟨a, b⟩ := x
 obtain ⟨c, d⟩ := y
 simp only at h0 h1
 subst h0; subst h1; rfl
theorem strict_names {l : List Lab} (h : Strict cmpN l) {x y : Lab} (hx : x ∈ l) (hy : y ∈ l) (hn : x.f0 = y.f0) : x = y := by
 induction l with
 | nil => cases hx
 | cons z l ih =>
  obtain ⟨h1, h2⟩ := List.pairwise_cons.1 h
  rcases List.mem_cons.1 hx with e | hx'
  ·rcases List.mem_cons.1 hy with e' | hy'
   ·rw [e, e']
   ·have := h1 y hy'
    rw [← e, show cmpN x y = 0 from (cmpS_eq _ _).2 hn] at this
    omega
  ·rcases List.mem_cons.1 hy with e' | hy'
   ·have := h1 x hx'
    rw [← e', show cmpN y x = 0 from (cmpS_eq _ _).2 hn.symm] at this
    omega
   ·exact ih h2 hx' hy'
theorem getL_mem {l : List Lab} : ∀ {n : ByteArray}, (∃ x ∈ l, x.f0 = n ∧ getL l n = x.f1) ∨ ((∀ x ∈ l, x.f0 ≠ n) ∧ getL l n = ⟨#[]⟩) := by
 induction l with
 | nil => intro n; exact .inr ⟨fun x h => (by cases h), rfl⟩
 | cons y l ih =>
  intro n
  rw [getL]
  by_cases h : y.f0.toList = n.toList
  ·rw [if_pos h]
   exact .inl ⟨y, List.mem_cons_self, (toList_eq _ _).1 h, rfl⟩
  ·rw [if_neg h]
   rcases ih (n := n) with ⟨x, hx, h1, h2⟩ | ⟨h1, h2⟩
   ·exact .inl ⟨x, List.mem_cons_of_mem _ hx, h1, h2⟩
   ·refine .inr ⟨fun x hx => ?_, h2⟩
    rcases List.mem_cons.1 hx with rfl | hx
    ·exact fun e => h ((toList_eq _ _).2 e)
    ·exact h1 x hx
theorem lab_some {x : Lab} (h : isLab x = true) : x.f1 ≠ ⟨#[]⟩ := by
 intro e
 unfold isLab at h
 rw [e] at h
 simp at h
 have := h.2.1
 exact absurd this (by decide)
/-- In a set: a label is there just if its name has its value. -/
theorem mem_get {l : List Lab} (hl : isSet l = true) {x : Lab} (hx : isLab x = true) : x ∈ l ↔ getL l x.f0 = x.f1 := by
 obtain ⟨h1, h2, h3⟩ := (isSet_iff l).1 hl
 rcases getL_mem (l := l) (n := x.f0) with ⟨y, hy, e1, e2⟩ | ⟨e1, e2⟩
 ·rw [e2]
  constructor
  ·intro h
   rw [strict_names h2 hy h e1]
  ·intro h
   rw [← lab_ext e1 h]; exact hy
 ·rw [e2]
  constructor
  ·intro h; exact absurd rfl (e1 x h)
  ·intro h; exact absurd h.symm (lab_some hx)
/-- The code's 'within'. -/
def Within (a b : List Lab) : Prop := ∀ x ∈ a, x ∈ b
/-- What labels.Join collects: those of b that are new in a; none where one is told otherwise. -/
def joinGo (a : List Lab) : List Lab → List Lab → Option (List Lab)
 | all, [] => some all
 | all, x :: b => if getL a x.f0 = ⟨#[]⟩ then joinGo a (all ++ [x]) b else if getL a x.f0 = x.f1 then joinGo a all b else none
def vJoinL (a b : List Lab) : List Lab × Bool := match joinGo a a b with
 | none => ([], false)
 | some all => ((vMake all).1, (vMake all).2 == 0)
theorem joinGo_within {a b : List Lab} (ha : isSet a = true) (hb : isSet b = true) (h : Within b a) : ∀ (c all : List Lab), (∀ x ∈ c, x ∈ b) → joinGo a all c = some all
 | [], all, _ => rfl
 | x :: c, all, hc => by
  have hx := hc x List.mem_cons_self
  have hl := (isSet_iff b).1 hb |>.1 x hx
  have e := (mem_get ha hl).1 (h x hx)
  rw [joinGo, if_neg (by rw [e]; exact lab_some hl), if_pos e]
  exact joinGo_within ha hb h c all (fun y hy => hc y (List.mem_cons_of_mem _ hy))
theorem join_in {a b : List Lab} (ha : isSet a = true) (hb : isSet b = true) (h : Within b a) : vJoinL a b = (a, true) := by
 unfold vJoinL
 rw [joinGo_within ha hb h b a (fun x hx => hx)]
 show ((vMake a).1, (vMake a).2 == 0) = (a, true)
 rw [vMake_set ha]; rfl
theorem joinGo_over {a b : List Lab} (ha : isSet a = true) (hb : isSet b = true) (h : Within a b) : ∀ (c all : List Lab), (∀ x ∈ c, x ∈ b) → joinGo a all c = some (all ++ c.filter (fun x => !a.any (fun y => decide (y.f0.toList = x.f0.toList))))
 | [], all, _ => by rw [joinGo, List.filter_nil, List.append_nil]
 | x :: c, all, hc => by
  have hx := hc x List.mem_cons_self
  have hl := (isSet_iff b).1 hb |>.1 x hx
  have ih := fun all => joinGo_over ha hb h c all (fun y hy => hc y (List.mem_cons_of_mem _ hy))
  rw [joinGo]
  rcases getL_mem (l := a) (n := x.f0) with ⟨y, hy, e1, e2⟩ | ⟨e1, e2⟩
  ·have hyx : y = x := strict_names ((isSet_iff b).1 hb).2.1 (h y hy) hx e1
   subst hyx
   have hany : a.any (fun z => decide (z.f0.toList = y.f0.toList)) = true := List.any_eq_true.2 ⟨y, hy, by simp⟩
   rw [if_neg (by rw [e2]; exact lab_some hl), if_pos e2, ih, List.filter_cons_of_neg (by rw [hany]; simp)]
  ·have hany : a.any (fun z => decide (z.f0.toList = x.f0.toList)) = false := by
    rw [List.any_eq_false]
    intro y hy
    rw [decide_eq_true_iff]
    exact fun e => e1 y hy ((toList_eq _ _).1 e)
   rw [if_pos e2, ih, List.filter_cons_of_pos (by rw [hany]; rfl), List.append_assoc]; rfl
theorem over_perm {a b : List Lab} (ha : isSet a = true) (hb : isSet b = true) (h : Within a b) : (a ++ b.filter (fun x => !a.any (fun y => decide (y.f0.toList = x.f0.toList)))).Perm b := by
 obtain ⟨a1, a2, a3⟩ := (isSet_iff a).1 ha
 obtain ⟨b1, b2, b3⟩ := (isSet_iff b).1 hb
 have nd : ∀ {l : List Lab}, Strict cmpN l → l.Nodup := fun hs => hs.imp (fun {x y} hxy e => by
  subst e
  have : cmpN x x = 0 := (cmpS_eq _ _).2 rfl
  omega)
 have key : ∀ x, x ∈ b.filter (fun x => !a.any (fun y => decide (y.f0.toList = x.f0.toList))) ↔ x ∈ b ∧ x ∉ a := by
  intro x
  rw [List.mem_filter]
  constructor
  ·rintro ⟨hx, hn⟩
   refine ⟨hx, fun hxa => ?_⟩
   rw [List.any_eq_true.2 ⟨x, hxa, by simp⟩] at hn
   cases hn
  ·rintro ⟨hx, hn⟩
   refine ⟨hx, ?_⟩
   rw [Bool.not_eq_true', List.any_eq_false]
   intro y hy
   rw [decide_eq_true_iff]
   intro e
   have := strict_names b2 (h y hy) hx ((toList_eq _ _).1 e)
   subst this
   exact hn hy
 refine (List.perm_ext_iff_of_nodup ?_ (nd b2)).2 (fun x => ?_)
 ·refine List.nodup_append.2 ⟨nd a2, (nd b2).filter _, fun x hx y hy e => ?_⟩
  subst e
  exact ((key x).1 hy).2 hx
 ·rw [List.mem_append, key]
  constructor
  ·rintro (hx | ⟨hx, _⟩)
   ·exact h x hx
   ·exact hx
  ·intro hx
   by_cases hxa : x ∈ a
   ·exact .inl hxa
   ·exact .inr ⟨hx, hxa⟩
theorem join_over {a b : List Lab} (ha : isSet a = true) (hb : isSet b = true) (h : Within a b) : vJoinL a b = (b, true) := by
 have p := over_perm ha hb h
 obtain ⟨b1, b2, b3⟩ := (isSet_iff b).1 hb
 unfold vJoinL
 rw [joinGo_over ha hb h b a (fun x hx => hx)]
 have e : vMake (a ++ b.filter (fun x => !a.any (fun y => decide (y.f0.toList = x.f0.toList)))) = (b, 0) := by
  unfold vMake
  have hap : Apart cmpN (a ++ b.filter (fun x => !a.any (fun y => decide (y.f0.toList = x.f0.toList)))) := Apart.perm cmpN3 p.symm b2.apart
  rw [if_neg (by
   intro hy
   obtain ⟨x, hx, hn⟩ := List.any_eq_true.1 hy
   rw [b1 x (p.mem_iff.1 hx)] at hn
   cases hn), if_neg (by rw [(adj_isort cmpN3 _).2 hap]; simp), if_neg (by rw [p.length_eq]; omega), isort_any_order cmpN3 p hap, isort_id cmpN3 (b2.sorted cmpN3)]
 simp only [e]
 rfl
/-- The longer one of two sets, of which one is within the other. -/
theorem join_longer {a b : List Lab} (ha : isSet a = true) (hb : isSet b = true) (h : Within a b ∨ Within b a) : vJoinL a b = (if a.length < b.length then b else a, true) := by
 rcases h with h | h
 ·rw [join_over ha hb h]
  by_cases hl : a.length < b.length
  ·rw [if_pos hl]
  ·rw [if_neg hl]
   have p := over_perm ha hb h
   have hlen := p.length_eq
   rw [List.length_append] at hlen
   have hf : b.filter (fun x => !a.any (fun y => decide (y.f0.toList = x.f0.toList))) = [] := List.eq_nil_of_length_eq_zero (by omega)
   rw [hf, List.append_nil] at p
   rw [strict_eq cmpN3 ((isSet_iff a).1 ha).2.1 ((isSet_iff b).1 hb).2.1 p]
 ·rw [join_in ha hb h]
  have hlen : ¬ a.length < b.length := by
   have p := (over_perm hb ha h).length_eq
   rw [List.length_append] at p
   omega
  rw [if_neg hlen]
theorem make1_calls (x : Lab) (hm : LabOk x) (w : World) : Calls Tryz.prog 142 #[.agg #[.string x.f0, .string x.f1]] w fun e w' => e = .returned (.bool (!isLab x)) ∧ Below w.heap.size w w' := by
 obtain ⟨k, hk⟩ := (badLab_ev x hm).rounds
 exact lb_Make_1.calls k _ _ _ w hk
theorem cmpN_tells : GSl.CmpTells k62 93 #[] cmpN := by
 intro W base ok x y cs ds hx hy
 obtain rfl := k62_openM hx
 obtain rfl := k62_openM hy
 exact byName_calls x y W
theorem adj_step (s : List Lab) (i : Nat) (h1 : 1 ≤ i) (hi : i < s.length) : adjEq cmpN (s.drop (i - 1)) = (decide ((s[i - 1]'(by omega)).f0 = s[i].f0) || adjEq cmpN (s.drop i)) := by
 obtain ⟨j, rfl⟩ : ∃ j, i = j + 1 := ⟨i - 1, by omega⟩
 simp only [Nat.add_sub_cancel]
 rw [List.drop_eq_getElem_cons (show j < s.length by omega), List.drop_eq_getElem_cons hi, adjEq]
 congr 1
 exact decide_eq_decide.2 (cmpS_eq _ _)
theorem adj_short : ∀ {s : List Lab}, s.length ≤ 1 → adjEq cmpN s = false
 | [], _ => rfl
 | [x], _ => rfl
 | x :: y :: s, h => by simp at h
theorem lmake_calls (A : Option Addr) (c : Nat) (l : List Lab) (hl : LabsOk l) (hb : l.length * 32 ≤ 140737488355328) (w : World) (hr : Kd.C k62 w A l.length l) :
  Calls Tryz.prog 86 #[.slice A l.length c] w fun e w' => ∃ v : Value, e = .returned (.tuple #[v, .int .i64 (vMake l).2]) ∧ Kd.R k62 62 w' w.heap.size (fun _ => True) v (vMake l).1 ∧ Below w.heap.size w w' := by
 have eg : ∀ args w, (callFunc 142 args).run Tryz.prog w = .ok (.enter 142 args) w := enters_of Tryz.func142 (by kernel_rfl) rfl
 have hc := containsLabel (fun x => !isLab x) 142 #[] eg A c l w hr (fun x hx w1 cs _ hK => by
  obtain rfl := k62_open hK
  exact make1_calls x (hl.2 x hx) w1)
 have hv : vMake l = if l.any (fun x => !isLab x) = true then ([], 90) else if adjEq cmpN (isort (ltOf cmpN) l) = true then ([], 8) else if 16 < (isort (ltOf cmpN) l).length then ([], 6) else (isort (ltOf cmpN) l, 0) := by unfold vMake; rw [isort_length]
 rw [hv]
 clear hv eg
 generalize l.any (fun x => !isLab x) = bad at hc ⊢
 generalize hs : isort (ltOf cmpN) l = s
 generalize hrr : (if bad = true then (([] : List Lab), (90 : Int)) else if adjEq cmpN s = true then ([], 8) else if 16 < s.length then ([], 6) else (s, 0)) = r
 have HRR := Sd.mk hrr
 have HN := Sd.mk (show s.length = l.length by rw [← hs]; exact isort_length l)
 have HS := Sd.mk hs
 clear hrr hs
 have HC := Sd.mk hc
 have HR := Sd.mk hr
 have HL := Sd.mk hb
 have HM := Sd.mk hl
 clear hc hr hb hl
 cases bad with
 | true =>
  go_enter Tryz.func86, Tryz.ntmps86
  go_wp2_with (go_at_call 102; refine HC.out.mono ?_; rintro e w1 ⟨rfl, hb1⟩)
  go_ret2
  have er : r = ([], 90) := by rw [← HRR.out]; simp
  exact ⟨.slice none 0 0, by rw [er]; rfl, by rw [er]; exact Kd.R_nil _ _ _ _ _, hb1⟩
 | false =>
  have mixed : Tryz.prog.follows .mixedOrders = true := by kernel_rfl
  go_enter Tryz.func86, Tryz.ntmps86
  go_wp2_with (first
   | (go_at_call 102; refine HC.out.mono ?_; rintro e w1 ⟨rfl, hb1⟩; have HB := Sd.mk hb1; clear hb1)
   | (go_at_call 105; refine (cloneLabel A c l _ (Kd.C_below HR.out HB.out) HL.out).mono ?_; rintro e w2 ⟨v, rfl, hv, hb2⟩; have HV := Sd.mk (Kd.R_lower hv HB.out.size); have HB2 := Sd.mk (HB.out.trans (hb2.mono HB.out.size)); clear hv hb2))
  refine (GSl.sortStable_R k62 (by decide) Tryz.sizeOf62 cmpN 93 #[] (enters_of Tryz.func93 (by kernel_rfl) rfl) cmpN3.ord cmpN_tells HV.out (by have := HL.out; omega)).mono ?_
  rintro e w3 ⟨rfl, hv3, hb3⟩
  rw [HS.out] at hv3
  have HV3 := Sd.mk hv3
  have HB3 := Sd.mk (HB2.out.trans hb3)
  clear hv3 hb3
  go_wp2
  obtain ⟨A3, c3, rfl, hc3, hC3⟩ := Kd.R_reads HV3.out
  clear hC3
  have hn := HM.out.1
  have hn2 : s.length < 4611686018427387904 := by rw [HN.out]; exact hn
  clear hn
  go_loopw [4] (fun v4 wr => ∃ i : Nat, 1 ≤ i ∧ (i ≤ s.length ∨ i = 1) ∧ v4 = .int .i64 i ∧ Sd (adjEq cmpN s = adjEq cmpN (s.drop (i - 1))) ∧ Sd (Kd.R k62 62 wr w.heap.size (fun _ => True) (.slice A3 s.length c3) s) ∧ Sd (Below w.heap.size w wr)) (fun v4 _ => s.length + 1 - (intOf v4).toNat)
  case atStart => exact ⟨1, Nat.le_refl _, .inr rfl, rfl, ⟨rfl⟩, HV3, HB3⟩
  case round =>
   clear HV3 HB3 HB HB2 HV HC
   obtain ⟨i, h1, hi, rfl, HT, HO, HW⟩ := hrel
   by_cases hlt : i < s.length
   ·have hlt' : (i : Int) < (s.length : Int) := by omega
    obtain ⟨j, hj⟩ : ∃ j, i - 1 = j := ⟨_, rfl⟩
    have hjl : j < s.length := by omega
    have bj : (j : Int) < (s.length : Int) := by omega
    have hwp : IntKind.i64.wrap ((i : Int) - 1) = (j : Int) := by rw [IntKind.wrap_i64]; omega
    have hC := (Kd.R_reads' HO.out).2.2
    obtain ⟨ad, rfl, p0, p1⟩ := at_T62 hC (i : Int) (by omega) (by omega)
    obtain ⟨ad2, e2, r0, r1⟩ := at_T62 hC (j : Int) (by omega) (by omega)
    injection e2 with e2
    subst e2
    rw [Int.toNat_natCast, rdL_at hlt] at p0
    rw [Int.toNat_natCast, rdL_at hjl] at r0
    have hst := adj_step s i h1 hlt
    simp only [hj] at hst
    have HX := Sd.mk (show adjEq cmpN s = (decide (s[j].f0 = s[i].f0) || adjEq cmpN (s.drop i)) by rw [HT.out, hj, hst])
    clear hst hC p1 r1 HT
    have HJ := Sd.mk hj
    clear hj
    generalize s[i].f0 = x at p0 HX
    generalize s[j].f0 = y at r0 HX
    have q0 := fun p : Bw wr => p.cell p0
    have t0 := fun p : Bw wr => p.cell r0
    clear p0 r0
    by_cases he : y = x
    ·subst he
     have HZ := Sd.mk (show adjEq cmpN s = true by rw [HX.out, decide_eq_true rfl, Bool.true_or])
     go_wp2_with fail
     refine wp_region_Bw (by assumption) (by kernel_rfl) ?_
     repeat ((with_reducible refine wpQuiet_step (fun K hK => ?_)); go_simp; first | ((with_reducible refine hK _ ?_); clear hK K) | (rw [if_neg (by decide)]; (with_reducible refine hK _ ?_); clear hK K))
     refine wpQuiet_nil ?_
     intro _ hw'
     obtain ⟨p, rfl⟩ := hw'
     have HB2 := Sd.mk (HW.out.trans (p.h.mono HW.out.size))
     go_wp2
     go_ret2
     have er : r = ([], 8) := by rw [← HRR.out]; simp [HZ.out]
     exact ⟨.slice none 0 0, by rw [er]; rfl, by rw [er]; exact Kd.R_nil _ _ _ _ _, HB2.out⟩
    ·have HZ := Sd.mk (show adjEq cmpN s = adjEq cmpN (s.drop (i + 1 - 1)) by rw [HX.out, decide_eq_false he, Bool.false_or, Nat.add_sub_cancel])
     have n2 : (x.toList == y.toList) = false := by rw [beq_eq_false_iff_ne]; exact fun h => he ((toList_eq _ _).1 h).symm
     have n3 : ¬ x.toList = y.toList := fun h => he ((toList_eq _ _).1 h).symm
     have n4 : ¬ x = y := fun h => he h.symm
     clear he HX
     go_wp2_with fail
     refine wp_region_Bw (by assumption) (by kernel_rfl) ?_
     repeat ((with_reducible refine wpQuiet_step (fun K hK => ?_)); go_simp; first | ((with_reducible refine hK _ ?_); clear hK K) | (rw [if_neg (by decide)]; (with_reducible refine hK _ ?_); clear hK K))
     refine wpQuiet_nil ?_
     intro _ hw'
     obtain ⟨p, rfl⟩ := hw'
     have HB2 := Sd.mk (HW.out.trans (p.h.mono HW.out.size))
     have HO2 := Sd.mk (Kd.R_below HO.out p.h)
     go_wp2
     go_roundw
     case rel => exact ⟨i + 1, by omega, .inl (by omega), by go_num, HZ, HO2, HB2⟩
     case measure => simp [intOf]; omega
   ·have n1 : decide ((i : Int) < (s.length : Int)) = false := decide_eq_false (by omega)
    have n2 : decide (i < s.length) = false := decide_eq_false hlt
    have HZ := Sd.mk (HT.out.trans (adj_short (by rw [List.length_drop]; omega)))
    clear hi hlt h1
    by_cases h16 : 16 < s.length
    ·have er0 : r = ([], 6) := by rw [← HRR.out]; simp [HZ.out, h16]
     have ER := Sd.mk er0
     clear er0
     have b1 : decide ((s.length : Int) > 16) = true := decide_eq_true (by omega)
     have b2 : decide (16 < s.length) = true := decide_eq_true h16
     clear h16
     go_wp2
     go_ret2
     have er := ER.out
     exact ⟨.slice none 0 0, by rw [er]; rfl, by rw [er]; exact Kd.R_nil _ _ _ _ _, HW.out⟩
    ·have er0 : r = (s, 0) := by rw [← HRR.out]; simp [HZ.out, h16]
     have ER := Sd.mk er0
     clear er0
     have b1 : decide ((s.length : Int) > 16) = false := decide_eq_false (by omega)
     have b2 : decide (16 < s.length) = false := decide_eq_false h16
     clear h16
     go_wp2
     go_ret2
     have er := ER.out
     exact ⟨.slice A3 s.length c3, by rw [er]; rfl, by rw [er]; exact HO.out, HW.out⟩
attribute [local go_sem high] eqA62
def eqL (a b : List Lab) : Bool := decide (cmpL a b = 0)
theorem eqL_cons (x y : Lab) (a b : List Lab) : eqL (x :: a) (y :: b) = (decide (cmpLab x y = 0) && eqL a b) := by
 unfold eqL
 rw [cmpL]
 by_cases h : cmpLab x y = 0
 ·rw [if_pos h, decide_eq_true h, Bool.true_and]
 ·rw [if_neg h, decide_eq_false h, Bool.false_and]
theorem eqL_len {a b : List Lab} (h : a.length ≠ b.length) : eqL a b = false := by
 unfold eqL
 exact decide_eq_false (fun e => h (by rw [cmpL_eq.1 e]))
theorem lab_ne {x y : Lab} (h : ¬ cmpLab x y = 0) : (x.f0.toList == y.f0.toList && (x.f1.toList == y.f1.toList)) = false := by
 by_cases h0 : x.f0 = y.f0
 ·by_cases h1 : x.f1 = y.f1
  ·exact absurd (cmpLab_eq.2 (lab_ext h0 h1)) h
  ·have : ¬ x.f1.toList = y.f1.toList := fun e => h1 ((toList_eq _ _).1 e)
   simp [this]
 ·have : ¬ x.f0.toList = y.f0.toList := fun e => h0 ((toList_eq _ _).1 e)
  simp [this]
theorem equalL_calls (A B : Option Addr) (c d : Nat) (a b : List Lab) (w : World) (ha : Kd.C k62 w A a.length a) (hb : Kd.C k62 w B b.length b) :
  Calls Tryz.prog 87 #[.slice A a.length c, .slice B b.length d] w fun e w' => e = .returned (.bool (eqL a b)) ∧ Below w.heap.size w w' := by
 have hma : a.length ≤ 9223372036854775807 := Kd.C_max ha
 have HA := Sd.mk ha
 have HB := Sd.mk hb
 clear ha hb
 have mixed : Tryz.prog.follows .mixedOrders = true := by kernel_rfl
 by_cases hl : a.length = b.length
 ·have HL := Sd.mk hl
  have n0 : ((a.length : Int) != (b.length : Int)) = false := by simp [hl]
  have n1 : (a.length != b.length) = false := by simp [hl]
  clear hl
  go_enter Tryz.func87, Tryz.ntmps87
  go_wp2
  go_loopw [4, 5, 13] (fun v4 _ v13 wr => ∃ i : Nat, i ≤ a.length ∧ v4 = .bool false ∧ v13 = .int .i64 i ∧ Sd (eqL a b = eqL (a.drop i) (b.drop i)) ∧ Sd (Below w.heap.size w wr)) (fun _ _ v13 _ => a.length - (intOf v13).toNat)
  case atStart => exact ⟨0, Nat.zero_le _, rfl, rfl, ⟨rfl⟩, ⟨Below.refl _ _⟩⟩
  case round =>
   obtain ⟨i, hi, rfl, rfl, HT, HW⟩ := hrel
   by_cases hlt : i < a.length
   ·have hj : i < b.length := by rw [← HL.out]; exact hlt
    have b1 : (i : Int) < (a.length : Int) := by omega
    have b2 : (i : Int) < (b.length : Int) := by omega
    obtain ⟨ad, rfl, p0, p1⟩ := at_T62 (Kd.C_below HA.out HW.out) (i : Int) (by omega) (by omega)
    obtain ⟨ad2, rfl, r0, r1⟩ := at_T62 (Kd.C_below HB.out HW.out) (i : Int) (by omega) (by omega)
    rw [Int.toNat_natCast, rdL_at hlt] at p0 p1
    rw [Int.toNat_natCast, rdL_at hj] at r0 r1
    have HX := Sd.mk (show eqL a b = (decide (cmpLab a[i] b[i] = 0) && eqL (a.drop (i + 1)) (b.drop (i + 1))) by rw [HT.out, List.drop_eq_getElem_cons hlt, List.drop_eq_getElem_cons hj, eqL_cons])
    generalize a[i] = x at p0 p1 HX
    generalize b[i] = y at r0 r1 HX
    have q0 := fun p : Bw wr => p.cell p0
    have q1 := fun p : Bw wr => p.cell p1
    have s0 := fun p : Bw wr => p.cell r0
    have s1 := fun p : Bw wr => p.cell r1
    clear p0 p1 r0 r1 HT
    by_cases he : cmpLab x y = 0
    ·have HZ := Sd.mk (show eqL a b = eqL (a.drop (i + 1)) (b.drop (i + 1)) by rw [HX.out, decide_eq_true he, Bool.true_and])
     obtain rfl := cmpLab_eq.1 he
     clear he HX
     go_wp2_with fail
     refine wp_region_Bw (by assumption) (by kernel_rfl) ?_
     repeat ((with_reducible refine wpQuiet_step (fun K hK => ?_)); go_simp; first | ((with_reducible refine hK _ ?_); clear hK K) | (rw [if_neg (by decide)]; (with_reducible refine hK _ ?_); clear hK K))
     refine wpQuiet_nil ?_
     intro _ hw'
     obtain ⟨p, rfl⟩ := hw'
     have HB2 := Sd.mk (HW.out.trans (p.h.mono HW.out.size))
     go_wp2
     go_roundw
     case rel => exact ⟨i + 1, by omega, rfl, by go_num, HZ, HB2⟩
     case measure => simp [intOf]; omega
    ·have HZ := Sd.mk (show eqL a b = false by rw [HX.out, decide_eq_false he, Bool.false_and])
     have ne := lab_ne he
     clear he HX
     go_wp2_with fail
     refine wp_region_Bw (by assumption) (by kernel_rfl) ?_
     repeat ((with_reducible refine wpQuiet_step (fun K hK => ?_)); go_simp; first | ((with_reducible refine hK _ ?_); clear hK K) | (rw [if_neg (by decide)]; (with_reducible refine hK _ ?_); clear hK K))
     refine wpQuiet_nil ?_
     intro _ hw'
     obtain ⟨p, rfl⟩ := hw'
     have HB2 := Sd.mk (HW.out.trans (p.h.mono HW.out.size))
     go_wp2
     go_ret
     exact ⟨by rw [HZ.out]; rfl, HB2.out⟩
   ·have m1 : decide ((i : Int) < (a.length : Int)) = false := decide_eq_false (by omega)
    have m2 : decide (i < a.length) = false := decide_eq_false hlt
    have HZ := Sd.mk (show eqL a b = true by rw [HT.out, List.drop_of_length_le (by omega), List.drop_of_length_le (by rw [← HL.out]; omega)]; rfl)
    go_wp2
    go_ret
    exact ⟨by rw [HZ.out]; rfl, HW.out⟩
 ·have HZ := Sd.mk (eqL_len hl)
  have n0 : ((a.length : Int) != (b.length : Int)) = true := by simp; omega
  have n1 : (a.length != b.length) = true := by simpa using hl
  clear hl
  go_enter Tryz.func87, Tryz.ntmps87
  go_wp2
  go_ret
  exact ⟨by rw [HZ.out]; rfl, Below.refl _ _⟩
theorem isSet_at (l : List Lab) (h : (vMake l).2 = 0) : isSet l = eqL (vMake l).1 l := by
 have : isSet l = true ↔ eqL (vMake l).1 l = true := by
  rw [make_set]
  unfold eqL
  rw [decide_eq_true_iff, cmpL_eq]
  constructor
  ·intro e; rw [e]
  ·intro e; exact Prod.ext e h
 cases h1 : isSet l <;> cases h2 : eqL (vMake l).1 l <;> simp_all
theorem isSet_calls (A : Option Addr) (c : Nat) (l : List Lab) (hl : LabsOk l) (hb : l.length * 32 ≤ 140737488355328) (w : World) (hr : Kd.C k62 w A l.length l) :
  Calls Tryz.prog 52 #[.slice A l.length c] w fun e w' => e = .returned (.bool (isSet l)) ∧ Below w.heap.size w w' := by
 have HM := Sd.mk (lmake_calls A c l hl hb w hr)
 have HR := Sd.mk hr
 have hset : (vMake l).2 ≠ 0 → isSet l = false := fun h => by
  cases h1 : isSet l with
  | false => rfl
  | true => exact absurd (by rw [(make_set l).1 h1]) h
 have hat := isSet_at l
 generalize vMake l = r at HM hset hat
 obtain ⟨s, n⟩ := r
 simp only at HM hset hat
 clear hr hl hb
 by_cases h0 : n = 0
 ·subst h0
  have HZ := Sd.mk (hat rfl)
  clear hat hset
  go_enter Tryz.func52, Tryz.ntmps52
  go_wp2_with fail
  refine HM.out.mono ?_
  rintro e w1 ⟨v, rfl, hv, hb1⟩
  obtain ⟨A2, c2, rfl, _, hC⟩ := Kd.R_reads hv
  have HE := Sd.mk (equalL_calls A2 A c2 c s l w1 hC (Kd.C_below HR.out hb1))
  have HB := Sd.mk hb1
  clear hv hb1 hC
  go_wp2_with (go_at_call 87; refine HE.out.mono ?_; rintro e w2 ⟨rfl, hb2⟩; have HB2 := Sd.mk (HB.out.trans (hb2.mono HB.out.size)); clear hb2)
  go_ret
  exact ⟨by rw [HZ.out]; simp, HB2.out⟩
 ·have HZ := Sd.mk (hset h0)
  have n0 : (n == 0) = false := by simpa using h0
  clear hat hset h0
  go_enter Tryz.func52, Tryz.ntmps52
  go_wp2_with fail
  refine HM.out.mono ?_
  rintro e w1 ⟨v, rfl, hv, hb1⟩
  have HB := Sd.mk hb1
  clear hv hb1
  go_wp2
  go_ret
  exact ⟨by rw [HZ.out]; rfl, HB.out⟩
def badVal (x : Ser) : Bool := !decide (isV (x.f1.f0, x.f1.f1))
/-- The frame of series. -/
def vSort (l : List Ser) : List Ser × Int := if l.any (fun x => !isSet x.f0) = true then ([], 90) else if l.any badVal = true then ([], 80) else if adjEq cmpSer (isort (ltOf cmpSer) l) = true then ([], 8) else if 200 < (isort (ltOf cmpSer) l).length then ([], 6) else (isort (ltOf cmpSer) l, 0)
def SerOk (x : Ser) : Prop := x.f0.length < 4398046511104 ∧ LabsOk x.f0
theorem sort1_calls (x : Ser) (cs : List Value) (hx : SerOk x) (W : World) (hK : k37.K W x cs) : Calls Tryz.prog 51 #[.agg cs.toArray] W fun e w' => e = .returned (.bool (!isSet x.f0)) ∧ Below W.heap.size W w' := by
 obtain ⟨A0, c0, rfl, _, hA⟩ := k37_open hK
 have hb := below1 W (.cells #[.slice A0 x.f0.length c0, .int .i64 x.f1.f0, .int .i64 x.f1.f1] 37)
 have HC := Sd.mk (isSet_calls A0 c0 x.f0 hx.2 (by have := hx.1; omega) _ (Kd.C_below hA hb))
 have HB := Sd.mk hb
 generalize isSet x.f0 = r at HC ⊢
 clear hx hK hA hb
 go_enter Tryz.func51, Tryz.ntmps51
 go_wp2_with (go_at_call 52; refine HC.out.mono ?_; rintro e w1 ⟨rfl, hb1⟩; have HE := Sd.mk (HB.out.trans (hb1.mono HB.out.size)); clear hb1)
 go_ret
 exact ⟨by first | rfl | simp, HE.out⟩
theorem sort2_calls (x : Ser) (cs : List Value) (W : World) (hK : k37.K W x cs) : Calls Tryz.prog 53 #[.agg cs.toArray] W fun e w' => e = .returned (.bool (badVal x)) ∧ Below W.heap.size W w' := by
 obtain ⟨A0, c0, rfl, _, hA⟩ := k37_open hK
 have hb := below1 W (.cells #[.slice A0 x.f0.length c0, .int .i64 x.f1.f0, .int .i64 x.f1.f1] 37)
 have HC := Sd.mk (check1_fresh x.f1.f0 x.f1.f1 (W.alloc (.cells #[.slice A0 x.f0.length c0, .int .i64 x.f1.f0, .int .i64 x.f1.f1] 37)))
 have HB := Sd.mk hb
 simp only [World.size_alloc] at HC
 unfold badVal
 clear hK hA hb
 by_cases h : isV (x.f1.f0, x.f1.f1)
 ·rw [if_pos h] at HC
  rw [decide_eq_true h]
  clear h
  go_enter Tryz.func53, Tryz.ntmps53
  go_wp2_with (go_at_call 33; refine HC.out.mono ?_; rintro e w1 ⟨rfl, hb1⟩; have HE := Sd.mk (HB.out.trans (hb1.mono (by omega))); clear hb1)
  go_ret
  exact ⟨rfl, HE.out⟩
 ·rw [if_neg h] at HC
  rw [decide_eq_false h]
  clear h
  go_enter Tryz.func53, Tryz.ntmps53
  go_wp2_with (go_at_call 33; refine HC.out.mono ?_; rintro e w1 ⟨rfl, hb1⟩; have HE := Sd.mk (HB.out.trans (hb1.mono (by omega))); clear hb1)
  go_ret
  exact ⟨rfl, HE.out⟩
theorem adjS_step (s : List Ser) (i : Nat) (h1 : 1 ≤ i) (hi : i < s.length) : adjEq cmpSer (s.drop (i - 1)) = (decide (cmpL (s[i - 1]'(by omega)).f0 s[i].f0 = 0) || adjEq cmpSer (s.drop i)) := by
 obtain ⟨j, rfl⟩ : ∃ j, i = j + 1 := ⟨i - 1, by omega⟩
 simp only [Nat.add_sub_cancel]
 rw [List.drop_eq_getElem_cons (show j < s.length by omega), List.drop_eq_getElem_cons hi, adjEq]
 rfl
theorem adjS_short : ∀ {s : List Ser}, s.length ≤ 1 → adjEq cmpSer s = false
 | [], _ => rfl
 | [x], _ => rfl
 | x :: y :: s, h => by simp at h
theorem ssort_calls (A : Option Addr) (c : Nat) (l : List Ser) (hl : SersOk l) (w : World) (hr : Kd.C k37 w A l.length l) :
  Calls Tryz.prog 14 #[.slice A l.length c] w fun e w' => ∃ v : Value, e = .returned (.tuple #[v, .int .i64 (vSort l).2]) ∧ Kd.N k37 37 w' w.heap.size (fun _ => True) v (vSort l).1 ∧ Below w.heap.size w w' := by
 have eg1 : ∀ args w, (callFunc 51 args).run Tryz.prog w = .ok (.enter 51 args) w := enters_of Tryz.func51 (by kernel_rfl) rfl
 have eg2 : ∀ args w, (callFunc 53 args).run Tryz.prog w = .ok (.enter 53 args) w := enters_of Tryz.func53 (by kernel_rfl) rfl
 have eg3 : ∀ args w, (callFunc 56 args).run Tryz.prog w = .ok (.enter 56 args) w := enters_of Tryz.func56 (by kernel_rfl) rfl
 have hc1 := containsSeries (fun x => !isSet x.f0) 51 #[] eg1 A c l w hr (fun x hx w1 cs _ hK => sort1_calls x cs (hl.2 x hx) w1 hK)
 have hc2 : ∀ w1, Below w.heap.size w w1 → _ := fun w1 hb => containsSeries badVal 53 #[] eg2 A c l w1 (Kd.C_below hr hb) (fun x hx w1 cs _ hK => sort2_calls x cs w1 hK)
 unfold vSort
 generalize l.any (fun x => !isSet x.f0) = bad1 at hc1 ⊢
 generalize l.any badVal = bad2 at hc2 ⊢
 generalize hs : isort (ltOf cmpSer) l = s
 generalize hrr : (if bad1 = true then (([] : List Ser), (90 : Int)) else if bad2 = true then ([], 80) else if adjEq cmpSer s = true then ([], 8) else if 200 < s.length then ([], 6) else (s, 0)) = r
 have HRR := Sd.mk hrr
 have HN := Sd.mk (show s.length = l.length by rw [← hs]; exact isort_length l)
 have HS := Sd.mk hs
 clear hrr hs
 have HC1 := Sd.mk hc1
 have HC2 := Sd.mk hc2
 have HR := Sd.mk hr
 have HL := Sd.mk hl
 have HE3 := Sd.mk eg3
 clear hc1 hc2 hr hl eg1 eg2 eg3
 have mixed : Tryz.prog.follows .mixedOrders = true := by kernel_rfl
 cases bad1 with
 | true =>
  go_enter Tryz.func14, Tryz.ntmps14
  go_wp2_with (go_at_call 50; refine HC1.out.mono ?_; rintro e w1 ⟨rfl, hb1⟩)
  go_ret2
  have er : r = ([], 90) := by rw [← HRR.out]; simp
  exact ⟨.slice none 0 0, by rw [er]; rfl, by rw [er]; exact Kd.N_nil _ _ _ _ _, hb1⟩
 | false =>
 cases bad2 with
 | true =>
  go_enter Tryz.func14, Tryz.ntmps14
  go_wp2_with fail
  refine HC1.out.mono ?_
  rintro e w1 ⟨rfl, hb1⟩
  have HB := Sd.mk hb1
  have HC := Sd.mk (HC2.out w1 hb1)
  clear hb1
  go_wp2_with (go_at_call 50; refine HC.out.mono ?_; rintro e w2 ⟨rfl, hb2⟩)
  go_ret2
  have er : r = ([], 80) := by rw [← HRR.out]; simp
  exact ⟨.slice none 0 0, by rw [er]; rfl, by rw [er]; exact Kd.N_nil _ _ _ _ _, HB.out.trans (hb2.mono HB.out.size)⟩
 | false =>
  go_enter Tryz.func14, Tryz.ntmps14
  go_wp2_with fail
  refine HC1.out.mono ?_
  rintro e w1 ⟨rfl, hb1⟩
  have HB := Sd.mk hb1
  have HC := Sd.mk (HC2.out w1 hb1)
  clear hb1
  go_wp2_with fail
  refine HC.out.mono ?_
  rintro e w2 ⟨rfl, hb2⟩
  have HB2 := Sd.mk (HB.out.trans (hb2.mono HB.out.size))
  clear hb2 HC HB
  go_wp2_with fail
  refine (values_calls _ _ _ _).mono ?_
  rintro e w3 ⟨rfl, rfl⟩
  have HB3 := Sd.mk (HB2.out.trans ((below1 w2 (.cells #[.slice A l.length c] 33)).mono HB2.out.size))
  have HSo := Sd.mk (sortedN_calls 56 HE3.out cmpSer cmpSer3 w2.heap.size A c l (by have := HL.out.1; omega) _ (sort3_calls _) (by simp) ((blk_cell (blk_new w2 (.cells #[.slice A l.length c] 33)) 0).trans rfl) (Kd.C_below HR.out HB3.out))
  rw [HS.out] at HSo
  go_wp2_with fail
  refine HSo.out.mono ?_
  rintro e w4 ⟨v, rfl, hv, hb4⟩
  have HV := Sd.mk (Kd.N_lower hv HB3.out.size)
  have HB4 := Sd.mk (HB3.out.trans (hb4.mono HB3.out.size))
  clear hv hb4 HB3 HSo HB2
  go_wp2
  obtain ⟨A3, c3, rfl, hc3, hC3⟩ := Kd.N_reads HV.out
  clear hC3
  have hn2 : s.length < 4611686018427387904 := by have := HN.out; have := HL.out.1; omega
  go_loopw [4] (fun v4 wr => ∃ i : Nat, 1 ≤ i ∧ (i ≤ s.length ∨ i = 1) ∧ v4 = .int .i64 i ∧ Sd (adjEq cmpSer s = adjEq cmpSer (s.drop (i - 1))) ∧ Sd (Kd.N k37 37 wr w.heap.size (fun _ => True) (.slice A3 s.length c3) s) ∧ Sd (Below w.heap.size w wr)) (fun v4 _ => s.length + 1 - (intOf v4).toNat)
  case atStart => exact ⟨1, Nat.le_refl _, .inr rfl, rfl, ⟨rfl⟩, HV, HB4⟩
  case round =>
   clear HV HB4
   obtain ⟨i, h1, hi, rfl, HT, HO, HW⟩ := hrel
   by_cases hlt : i < s.length
   ·have hlt' : (i : Int) < (s.length : Int) := by omega
    obtain ⟨j, hj⟩ : ∃ j, i - 1 = j := ⟨_, rfl⟩
    have hjl : j < s.length := by omega
    have bj : (j : Int) < (s.length : Int) := by omega
    have hwp : IntKind.i64.wrap ((i : Int) - 1) = (j : Int) := by rw [IntKind.wrap_i64]; omega
    have hC := (Kd.N_reads' HO.out).2.2
    obtain ⟨ad, Ai, ci, rfl, p0, _, _, _, hCi⟩ := at_T37 hC (i : Int) (by omega) (by omega)
    obtain ⟨ad2, Aj, cj, e2, r0, _, _, _, hCj⟩ := at_T37 hC (j : Int) (by omega) (by omega)
    injection e2 with e2
    subst e2
    rw [rdS_at hlt] at p0 hCi
    rw [rdS_at hjl] at r0 hCj
    rw [Int.toNat_natCast] at p0 r0
    have hst := adjS_step s i h1 hlt
    simp only [hj] at hst
    have HX := Sd.mk (show adjEq cmpSer s = (decide (cmpL s[j].f0 s[i].f0 = 0) || adjEq cmpSer (s.drop i)) by rw [HT.out, hj, hst])
    clear hst hC HT
    have HJ := Sd.mk hj
    clear hj
    generalize s[i].f0 = x at p0 HX hCi
    generalize s[j].f0 = y at r0 HX hCj
    have q0 := fun p : Bw wr => p.cell p0
    have t0 := fun p : Bw wr => p.cell r0
    have hcmp := fun p : Bw wr => p.at (lcompare_calls Aj Ai cj ci y x p.w (Kd.C_below hCj p.h) (Kd.C_below hCi p.h))
    clear p0 r0 hCi hCj
    generalize hcr : cmpL y x = cr at HX hcmp
    clear hcr
    by_cases he : cr = 0
    ·subst he
     have HZ := Sd.mk (show adjEq cmpSer s = true by rw [HX.out, decide_eq_true rfl, Bool.true_or])
     go_wp2_with fail
     refine wp_region_Bw (by assumption) (by kernel_rfl) ?_
     repeat (quiet_step ((go_at_call 57; exact hcmp _)))
     refine wpQuiet_nil ?_
     intro _ hw'
     obtain ⟨p, rfl⟩ := hw'
     have HB2 := Sd.mk (HW.out.trans (p.h.mono HW.out.size))
     go_wp2
     go_ret2
     have er : r = ([], 8) := by rw [← HRR.out]; simp [HZ.out]
     exact ⟨.slice none 0 0, by rw [er]; rfl, by rw [er]; exact Kd.N_nil _ _ _ _ _, HB2.out⟩
    ·have HZ := Sd.mk (show adjEq cmpSer s = adjEq cmpSer (s.drop (i + 1 - 1)) by rw [HX.out, decide_eq_false he, Bool.false_or, Nat.add_sub_cancel])
     have n0 : (cr == 0) = false := by simpa using he
     clear he HX
     go_wp2_with fail
     refine wp_region_Bw (by assumption) (by kernel_rfl) ?_
     repeat (quiet_step ((go_at_call 57; exact hcmp _)))
     refine wpQuiet_nil ?_
     intro _ hw'
     obtain ⟨p, rfl⟩ := hw'
     have HB2 := Sd.mk (HW.out.trans (p.h.mono HW.out.size))
     have HO2 := Sd.mk (Kd.N_below HO.out p.h)
     go_wp2
     go_roundw
     case rel => exact ⟨i + 1, by omega, .inl (by omega), by go_num, HZ, HO2, HB2⟩
     case measure => simp [intOf]; omega
   ·have n1 : decide ((i : Int) < (s.length : Int)) = false := decide_eq_false (by omega)
    have n2 : decide (i < s.length) = false := decide_eq_false hlt
    have HZ := Sd.mk (HT.out.trans (adjS_short (by rw [List.length_drop]; omega)))
    clear hi hlt h1
    by_cases h200 : 200 < s.length
    ·have er0 : r = ([], 6) := by rw [← HRR.out]; simp [HZ.out, h200]
     have ER := Sd.mk er0
     clear er0
     have b1 : decide ((s.length : Int) > 200) = true := decide_eq_true (by omega)
     have b2 : decide (200 < s.length) = true := decide_eq_true h200
     clear h200
     go_wp2
     go_ret2
     have er := ER.out
     exact ⟨.slice none 0 0, by rw [er]; rfl, by rw [er]; exact Kd.N_nil _ _ _ _ _, HW.out⟩
    ·have er0 : r = (s, 0) := by rw [← HRR.out]; simp [HZ.out, h200]
     have ER := Sd.mk er0
     clear er0
     have b1 : decide ((s.length : Int) > 200) = false := decide_eq_false (by omega)
     have b2 : decide (200 < s.length) = false := decide_eq_false h200
     clear h200
     go_wp2
     go_ret2
     have er := ER.out
     exact ⟨.slice A3 s.length c3, by rw [er]; rfl, by rw [er]; exact HO.out, HW.out⟩
theorem get1_calls (x : Lab) (n : ByteArray) (ad : Addr) (w : World) (hc : w.cell? ad = some (.string n)) : Calls Tryz.prog 153 #[.agg #[.string x.f0, .string x.f1], .pointer (some ad)] w fun e w' => e = .returned (.bool (decide (x.f0.toList = n.toList))) ∧ Below w.heap.size w w' := by
 obtain ⟨s, t⟩ := x
 simp only
 have c0 := pw_cell_below (bal (Below.refl w.heap.size w) (.cells #[.string s, .string t] 62)) hc
 clear hc
 by_cases h : s.toList = n.toList
 ·have e1 : (s.toList == n.toList) = true := by simp [h]
  rw [decide_eq_true h]
  have H := Sd.mk h
  clear h
  go_enter Tryz.func153, Tryz.ntmps153
  go_wp2
  go_ret
  exact ⟨by first | rfl | (simp [H.out]; done), by repeat (first | exact Below.refl _ _ | apply bal | apply pbd | apply bd1)⟩
 ·have e1 : (s.toList == n.toList) = false := by simp [h]
  rw [decide_eq_false h]
  have H := Sd.mk h
  clear h
  go_enter Tryz.func153, Tryz.ntmps153
  go_wp2
  go_ret
  exact ⟨by first | rfl | (simp [H.out]; done), by repeat (first | exact Below.refl _ _ | apply bal | apply pbd | apply bd1)⟩
theorem idx_get (n : ByteArray) : ∀ (l : List Lab) (i : Nat), (Go.Proofs.YtcmiehddjgfjaaaGreat.I.idxP (fun x : Lab => decide (x.f0.toList = n.toList)) l i = -1 ∧ getL l n = ⟨#[]⟩) ∨ ∃ (k : Nat) (h : k < l.length), Go.Proofs.YtcmiehddjgfjaaaGreat.I.idxP (fun x : Lab => decide (x.f0.toList = n.toList)) l i = ((i + k : Nat) : Int) ∧ getL l n = l[k].f1
 | [], i => .inl ⟨rfl, rfl⟩
 | x :: l, i => by
  rw [Go.Proofs.YtcmiehddjgfjaaaGreat.I.idxP, getL]
  by_cases h : x.f0.toList = n.toList
  ·rw [if_pos (decide_eq_true h), if_pos h]
   exact .inr ⟨0, by simp, rfl, rfl⟩
  ·rw [if_neg (by simpa using h), if_neg h]
   rcases idx_get n l (i + 1) with ⟨a, b⟩ | ⟨k, hk, a, b⟩
   ·exact .inl ⟨a, b⟩
   ·exact .inr ⟨k + 1, by simp; omega, by rw [a]; congr 1; omega, b⟩
theorem get_calls (A : Option Addr) (c : Nat) (l : List Lab) (n : ByteArray) (w : World) (hr : Kd.C k62 w A l.length l) :
  Calls Tryz.prog 106 #[.slice A l.length c, .string n] w fun e w' => e = .returned (.string (getL l n)) ∧ Below w.heap.size w w' := by
 have hm : l.length ≤ 9223372036854775807 := Kd.C_max hr
 have eg : ∀ args w, (callFunc 153 args).run Tryz.prog w = .ok (.enter 153 args) w := enters_of Tryz.func153 (by kernel_rfl) rfl
 have hb0 : Below w.heap.size w (w.alloc (.cells #[.string n] 9)) := bal (Below.refl _ _) _
 have hcell : (w.alloc (.cells #[.string n] 9)).cell? ⟨w.heap.size, 0, none⟩ = some (.string n) := (blk_cell (blk_new w _) 0).trans rfl
 have hi := indexLabel (fun x => decide (x.f0.toList = n.toList)) 153 #[.pointer (some ⟨w.heap.size, 0, none⟩)] eg A c l _ (Kd.C_below hr hb0) (fun x hx w1 cs hw hK => by
  obtain rfl := k62_open hK
  exact get1_calls x n _ w1 (pw_cell_below hw hcell))
 have HI := Sd.mk hi
 have HB0 := Sd.mk hb0
 have HR := Sd.mk hr
 clear hi hb0 hr hcell eg
 rcases idx_get n l 0 with ⟨h1, h2⟩ | ⟨k, hk, h1, h2⟩
 ·rw [h1] at HI
  have HZ := Sd.mk h2
  clear h1 h2
  go_enter Tryz.func106, Tryz.ntmps106
  go_wp2_with (go_at_call 151; refine HI.out.mono ?_; rintro e w1 ⟨rfl, hb1⟩; have HB := Sd.mk (HB0.out.trans (hb1.mono HB0.out.size)); clear hb1)
  go_ret
  exact ⟨by rw [HZ.out]; rfl, HB.out⟩
 ·rw [h1, Nat.zero_add] at HI
  have HZ := Sd.mk h2
  clear h1 h2
  have n0 : decide ((k : Int) < 0) = false := decide_eq_false (by omega)
  have bk : (k : Int) < (l.length : Int) := by omega
  go_enter Tryz.func106, Tryz.ntmps106
  go_wp2_with fail
  refine HI.out.mono ?_
  rintro e w1 ⟨rfl, hb1⟩
  have HB := Sd.mk (HB0.out.trans (hb1.mono HB0.out.size))
  obtain ⟨ad, rfl, p0, p1⟩ := at_T62 (Kd.C_below HR.out HB.out) (k : Int) (by omega) (by omega)
  rw [Int.toNat_natCast, rdL_at hk] at p0 p1
  clear hb1 p0
  generalize l[k].f1 = r at p1 HZ
  go_wp2
  go_ret
  exact ⟨by rw [HZ.out]; rfl, HB.out⟩
def idxL (x : Lab) : List Lab → Nat → Int
 | [], _ => -1
 | y :: l, i => if cmpLab x y = 0 then (i : Int) else idxL x l (i + 1)
def hasL (l : List Lab) (x : Lab) : Bool := l.any fun y => decide (cmpLab x y = 0)
theorem hasL_iff (l : List Lab) (x : Lab) : hasL l x = true ↔ x ∈ l := by
 unfold hasL
 rw [List.any_eq_true]
 constructor
 ·rintro ⟨y, hy, h⟩
  rw [cmpLab_eq.1 (of_decide_eq_true h)]; exact hy
 ·intro h; exact ⟨x, h, decide_eq_true (cmpLab_eq.2 rfl)⟩
theorem idxL_ge (x : Lab) : ∀ (l : List Lab) (i : Nat), decide (0 ≤ idxL x l i) = hasL l x
 | [], i => by simp [idxL, hasL]
 | y :: l, i => by
  have ih := idxL_ge x l (i + 1)
  unfold hasL at ih ⊢
  rw [idxL, List.any_cons]
  by_cases h : cmpLab x y = 0
  ·rw [if_pos h, decide_eq_true h, Bool.true_or]
   exact decide_eq_true (by omega)
  ·rw [if_neg h, decide_eq_false h, Bool.false_or, ih]
theorem idxL_calls (A : Option Addr) (c : Nat) (l : List Lab) (x : Lab) (w : World) (hr : Kd.C k62 w A l.length l) :
  Calls Tryz.prog 152 #[.slice A l.length c, .agg #[.string x.f0, .string x.f1]] w fun e w' => e = .returned (.int .i64 (idxL x l 0)) ∧ Below w.heap.size w w' := by
 have hm : l.length ≤ 9223372036854775807 := Kd.C_max hr
 have HR := Sd.mk hr
 have mixed : Tryz.prog.follows .mixedOrders = true := by kernel_rfl
 have HB0 := Sd.mk (bal (Below.refl w.heap.size w) (.cells #[.string x.f0, .string x.f1] 62))
 have X0 := Sd.mk (blk_new w (.cells #[.string x.f0, .string x.f1] 62))
 clear hr
 go_enter Tryz.func152, Tryz.ntmps152
 go_wp2
 go_loopw [4, 5, 8] (fun v4 _ v8 wr => ∃ i : Nat, i ≤ l.length ∧ v4 = .int .i64 0 ∧ v8 = .int .i64 i ∧ Sd (idxL x l 0 = idxL x (l.drop i) i) ∧ Sd (Below (w.alloc (.cells #[.string x.f0, .string x.f1] 62)).heap.size (w.alloc (.cells #[.string x.f0, .string x.f1] 62)) wr)) (fun _ _ v8 _ => l.length - (intOf v8).toNat)
 case atStart => exact ⟨0, Nat.zero_le _, rfl, rfl, ⟨rfl⟩, ⟨Below.refl _ _⟩⟩
 case round =>
  obtain ⟨i, hi, rfl, rfl, HT, HW⟩ := hrel
  have HG := Sd.mk (HB0.out.trans (HW.out.mono HB0.out.size))
  by_cases hlt : i < l.length
  ·have b1 : (i : Int) < (l.length : Int) := by omega
   obtain ⟨ad, rfl, p0, p1⟩ := at_T62 (Kd.C_below HR.out HG.out) (i : Int) (by omega) (by omega)
   rw [Int.toNat_natCast, rdL_at hlt] at p0 p1
   have hst : idxL x (l.drop i) i = if cmpLab x l[i] = 0 then (i : Int) else idxL x (l.drop (i + 1)) (i + 1) := by rw [List.drop_eq_getElem_cons hlt, idxL]
   have HX := Sd.mk (HT.out.trans hst)
   clear hst HT
   generalize l[i] = y at p0 p1 HX
   have q0 := fun p : Bw wr => p.cell p0
   have q1 := fun p : Bw wr => p.cell p1
   have s0 := fun p : Bw wr => p.cell ((blk_cell (blk_below X0.out HW.out) 0).trans rfl)
   have s1 := fun p : Bw wr => p.cell ((blk_cell (blk_below X0.out HW.out) 1).trans rfl)
   clear p0 p1
   by_cases he : cmpLab x y = 0
   ·have HZ := Sd.mk (HX.out.trans (if_pos he))
    obtain rfl := cmpLab_eq.1 he
    clear he HX
    go_wp2_with fail
    refine wp_region_Bw (by assumption) (by kernel_rfl) ?_
    repeat ((with_reducible refine wpQuiet_step (fun K hK => ?_)); go_simp; first | ((with_reducible refine hK _ ?_); clear hK K) | (rw [if_neg (by decide)]; (with_reducible refine hK _ ?_); clear hK K))
    refine wpQuiet_nil ?_
    intro _ hw'
    obtain ⟨p, rfl⟩ := hw'
    have HB2 := Sd.mk (HG.out.trans (p.h.mono HG.out.size))
    go_wp2
    go_ret
    exact ⟨by rw [HZ.out]; rfl, HB2.out⟩
   ·have HZ := Sd.mk (HX.out.trans (if_neg he))
    have ne := lab_ne he
    clear he HX
    go_wp2_with fail
    refine wp_region_Bw (by assumption) (by kernel_rfl) ?_
    repeat ((with_reducible refine wpQuiet_step (fun K hK => ?_)); go_simp; first | ((with_reducible refine hK _ ?_); clear hK K) | (rw [if_neg (by decide)]; (with_reducible refine hK _ ?_); clear hK K))
    refine wpQuiet_nil ?_
    intro _ hw'
    obtain ⟨p, rfl⟩ := hw'
    have HB2 := Sd.mk (HW.out.trans (p.h.mono HW.out.size))
    go_wp2
    go_roundw
    case rel => exact ⟨i + 1, by omega, rfl, by go_num, HZ, HB2⟩
    case measure => simp [intOf]; omega
  ·have m1 : decide ((i : Int) < (l.length : Int)) = false := decide_eq_false (by omega)
   have m2 : decide (i < l.length) = false := decide_eq_false hlt
   have HZ := Sd.mk (show idxL x l 0 = -1 by rw [HT.out, List.drop_of_length_le (by omega)]; rfl)
   go_wp2
   go_ret
   exact ⟨by rw [HZ.out]; rfl, HG.out⟩
theorem hasL_calls (A : Option Addr) (c : Nat) (l : List Lab) (x : Lab) (w : World) (hr : Kd.C k62 w A l.length l) :
  Calls Tryz.prog 104 #[.slice A l.length c, .agg #[.string x.f0, .string x.f1]] w fun e w' => e = .returned (.bool (hasL l x)) ∧ Below w.heap.size w w' := by
 have hb := bal (Below.refl w.heap.size w) (.cells #[.string x.f0, .string x.f1] 62)
 have HI := Sd.mk (idxL_calls A c l x _ (Kd.C_below hr hb))
 have HB := Sd.mk hb
 rw [← idxL_ge x l 0]
 generalize idxL x l 0 = r at HI ⊢
 obtain ⟨s, t⟩ := x
 simp only at HI HB
 clear hr hb
 go_enter Tryz.func104, Tryz.ntmps104
 go_wp2_with (go_at_call 152; refine HI.out.mono ?_; rintro e w1 ⟨rfl, hb1⟩; have HE := Sd.mk (HB.out.trans (hb1.mono HB.out.size)); clear hb1)
 go_ret
 exact ⟨by first | rfl | simp, HE.out⟩
theorem within1_calls (B : Option Addr) (c : Nat) (b : List Lab) (x : Lab) (ad : Addr) (w : World) (hr : Kd.C k62 w B b.length b) (hc : w.cell? ad = some (.slice B b.length c)) :
  Calls Tryz.prog 103 #[.agg #[.string x.f0, .string x.f1], .pointer (some ad)] w fun e w' => e = .returned (.bool (!hasL b x)) ∧ Below w.heap.size w w' := by
 have hb := bal (Below.refl w.heap.size w) (.cells #[.string x.f0, .string x.f1] 62)
 have c0 := pw_cell_below hb hc
 have HI := Sd.mk (hasL_calls B c b x _ (Kd.C_below hr hb))
 have HB := Sd.mk hb
 generalize hasL b x = r at HI ⊢
 obtain ⟨s, t⟩ := x
 simp only at HI HB c0 ⊢
 clear hr hb hc
 go_enter Tryz.func103, Tryz.ntmps103
 go_wp2_with (go_at_call 104; refine HI.out.mono ?_; rintro e w1 ⟨rfl, hb1⟩; have HE := Sd.mk (HB.out.trans (hb1.mono HB.out.size)); clear hb1)
 go_ret
 exact ⟨by first | rfl | simp, HE.out⟩
/-- The code's 'within'. -/
def inC (a b : List Lab) : Bool := !a.any fun x => !hasL b x
theorem inC_iff (a b : List Lab) : inC a b = true ↔ Within a b := by
 unfold inC Within
 rw [Bool.not_eq_true', List.any_eq_false]
 constructor
 ·intro h x hx
  have := h x hx
  rw [Bool.not_eq_true', Bool.not_eq_false] at this
  exact (hasL_iff b x).1 this
 ·intro h x hx
  rw [(hasL_iff b x).2 (h x hx)]; simp
theorem within_calls (A B : Option Addr) (c d : Nat) (a b : List Lab) (w : World) (ha : Kd.C k62 w A a.length a) (hb : Kd.C k62 w B b.length b) :
  Calls Tryz.prog 63 #[.slice A a.length c, .slice B b.length d] w fun e w' => e = .returned (.bool (inC a b)) ∧ Below w.heap.size w w' := by
 have eg : ∀ args w, (callFunc 103 args).run Tryz.prog w = .ok (.enter 103 args) w := enters_of Tryz.func103 (by kernel_rfl) rfl
 have hb0 : Below w.heap.size w (w.alloc (.cells #[.slice B b.length d] 35)) := bal (Below.refl _ _) _
 have hcell : (w.alloc (.cells #[.slice B b.length d] 35)).cell? ⟨w.heap.size, 0, none⟩ = some (.slice B b.length d) := (blk_cell (blk_new w _) 0).trans rfl
 have hi := containsLabel (fun x => !hasL b x) 103 #[.pointer (some ⟨w.heap.size, 0, none⟩)] eg A c a _ (Kd.C_below ha hb0) (fun x hx w1 cs hw hK => by
  obtain rfl := k62_open hK
  exact within1_calls B d b x _ w1 (Kd.C_below (Kd.C_below hb hb0) hw) (pw_cell_below hw hcell))
 unfold inC
 generalize (a.any fun x => !hasL b x) = r at hi ⊢
 have HI := Sd.mk hi
 have HB := Sd.mk hb0
 clear hi hb0 hcell eg ha hb
 go_enter Tryz.func63, Tryz.ntmps63
 go_wp2_with (go_at_call 102; refine HI.out.mono ?_; rintro e w1 ⟨rfl, hb1⟩; have HE := Sd.mk (HB.out.trans (hb1.mono HB.out.size)); clear hb1)
 go_ret
 exact ⟨by first | rfl | simp, HE.out⟩
def fits (x y : Ser) : Bool := inC x.f0 y.f0 || inC y.f0 x.f0
def joinS (op : ByteArray) (x y : Ser) : Ser := ⟨(vJoinL x.f0 y.f0).1, ⟨(vDo op [(x.f1.f0, x.f1.f1), (y.f1.f0, y.f1.f1)]).1.1, (vDo op [(x.f1.f0, x.f1.f1), (y.f1.f0, y.f1.f1)]).1.2⟩⟩
def rowJ (op : ByteArray) (x : Ser) (q : List Ser) : List Ser := (q.filter (fits x)).map (joinS op x)
def pairsJ (op : ByteArray) (p q : List Ser) : List Ser := p.flatMap fun x => rowJ op x q
def vJoin (op : ByteArray) (a b : List Ser) : List Ser × Int := if (vSort a).2 = 0 then (if (vSort b).2 = 0 then (if (vDo op [(1, 0), (1, 0)]).2 = 0 then vSort (pairsJ op (vSort a).1 (vSort b).1) else ([], 2)) else ([], (vSort b).2)) else ([], (vSort a).2)
theorem rowJ_step (op : ByteArray) (x : Ser) (q : List Ser) (j : Nat) (hj : j < q.length) : rowJ op x (q.take (j + 1)) = rowJ op x (q.take j) ++ (if fits x q[j] = true then [joinS op x q[j]] else []) := by
 unfold rowJ
 rw [List.take_add_one, List.getElem?_eq_getElem hj, List.filter_append, List.map_append]
 congr 1
 by_cases h : fits x q[j] = true
 ·rw [if_pos h]; simp [h]
 ·rw [if_neg h]; simp [h]
theorem pairsJ_step (op : ByteArray) (p q : List Ser) (i : Nat) (hi : i < p.length) : pairsJ op (p.take (i + 1)) q = pairsJ op (p.take i) q ++ rowJ op p[i] q := by
 unfold pairsJ
 rw [List.take_add_one, List.getElem?_eq_getElem hi, List.flatMap_append]
 simp
theorem rowJ_len (op : ByteArray) (x : Ser) (q : List Ser) : (rowJ op x q).length ≤ q.length := by
 unfold rowJ
 rw [List.length_map]
 exact List.length_filter_le _ _
theorem pairsJ_len (op : ByteArray) (q : List Ser) : ∀ p : List Ser, (pairsJ op p q).length ≤ p.length * q.length
 | [] => by simp [pairsJ]
 | x :: p => by
  have h1 := rowJ_len op x q
  have h2 := pairsJ_len op q p
  have e : pairsJ op (x :: p) q = rowJ op x q ++ pairsJ op p q := by unfold pairsJ; rw [List.flatMap_cons]
  rw [e, List.length_append, List.length_cons, Nat.add_mul, Nat.one_mul]
  omega
theorem set_ok {l : List Lab} (h : isSet l = true) : LabsOk l ∧ l.length ≤ 16 := by
 obtain ⟨h1, _, h3⟩ := (isSet_iff l).1 h
 refine ⟨⟨by omega, fun x hx => ?_⟩, h3⟩
 have := h1 x hx
 unfold isLab isName at this
 simp only [Bool.and_eq_true, decide_eq_true_eq] at this
 unfold LabOk
 omega
theorem vSort_ok {l : List Ser} (h : (vSort l).2 = 0) : (∀ x ∈ l, isSet x.f0 = true) ∧ (∀ x ∈ l, isV (x.f1.f0, x.f1.f1)) ∧ adjEq cmpSer (isort (ltOf cmpSer) l) = false ∧ l.length ≤ 200 ∧ (vSort l).1 = isort (ltOf cmpSer) l := by
 unfold vSort at h ⊢
 split at h
 ·cases h
 ·rename_i h1
  split at h
  ·cases h
  ·rename_i h2
   split at h
   ·cases h
   ·rename_i h3
    split at h
    ·cases h
    ·rename_i h4
     rw [isort_length] at h4
     refine ⟨fun x hx => ?_, fun x hx => ?_, by simpa using h3, by omega, by rw [if_neg h1, if_neg h2, if_neg h3, if_neg (by rw [isort_length]; exact h4)]⟩
     ·cases hb : isSet x.f0 with
      | true => rfl
      | false => exact absurd (List.any_eq_true.2 ⟨x, hx, by rw [hb]; rfl⟩) h1
     ·by_cases hb : isV (x.f1.f0, x.f1.f1)
      ·exact hb
      ·exact absurd (List.any_eq_true.2 ⟨x, hx, by unfold badVal; rw [decide_eq_false hb]; rfl⟩) h2
theorem vSort_mem {l : List Ser} (h : (vSort l).2 = 0) {x : Ser} : x ∈ (vSort l).1 ↔ x ∈ l := by
 rw [(vSort_ok h).2.2.2.2]
 exact (isort_perm _ l).mem_iff
theorem vSort_len {l : List Ser} (h : (vSort l).2 = 0) : (vSort l).1.length ≤ 200 := by
 rw [(vSort_ok h).2.2.2.2, isort_length]
 exact (vSort_ok h).2.2.2.1
/-- The labels of two that fit: the longer ones. -/
theorem joinS_labels {op : ByteArray} {x y : Ser} (hx : isSet x.f0 = true) (hy : isSet y.f0 = true) (hf : fits x y = true) : (joinS op x y).f0 = (if x.f0.length < y.f0.length then y.f0 else x.f0) := by
 unfold fits at hf
 rw [Bool.or_eq_true, inC_iff, inC_iff] at hf
 unfold joinS
 rw [join_longer hx hy hf]
theorem pairsJ_sets {op : ByteArray} {p q : List Ser} (hp : ∀ x ∈ p, isSet x.f0 = true) (hq : ∀ x ∈ q, isSet x.f0 = true) : ∀ z ∈ pairsJ op p q, isSet z.f0 = true := by
 intro z hz
 unfold pairsJ rowJ at hz
 obtain ⟨x, hx, hz⟩ := List.mem_flatMap.1 hz
 obtain ⟨y, hy, rfl⟩ := List.mem_map.1 hz
 obtain ⟨hy, hf⟩ := List.mem_filter.1 hy
 rw [joinS_labels (hp x hx) (hq y hy) hf]
 split
 ·exact hq y hy
 ·exact hp x hx
theorem pairsJ_ok {op : ByteArray} {p q : List Ser} (hp : ∀ x ∈ p, isSet x.f0 = true) (hq : ∀ x ∈ q, isSet x.f0 = true) (lp : p.length ≤ 200) (lq : q.length ≤ 200) : SersOk (pairsJ op p q) := by
 have h1 := pairsJ_len op q p
 have h2 : p.length * q.length ≤ 200 * 200 := Nat.mul_le_mul lp lq
 refine ⟨by omega, fun z hz => ?_⟩
 have h := set_ok (pairsJ_sets hp hq z hz)
 exact ⟨by omega, h.1⟩
/-- Element i of a row of the call's own, read. -/
theorem own_at {W : World} {base g n c : Nat} {ok : Nat → Prop} {xs : List Ser} (HO : Kd.N k37 37 W base ok (.slice (some ⟨g, 0, none⟩) n c) xs) (i : Nat) (hi : i < xs.length) :
  ∃ A0 c0, W.cell? ⟨g, i * 3, none⟩ = some (.slice A0 (xs[i]).f0.length c0) ∧ W.cell? ⟨g, i * 3 + 1, none⟩ = some (.int .i64 (xs[i]).f1.f0) ∧ W.cell? ⟨g, i * 3 + 2, none⟩ = some (.int .i64 (xs[i]).f1.f1) ∧ (xs[i]).f0.length ≤ c0 ∧ Kd.C k62 W A0 (xs[i]).f0.length (xs[i]).f0 ∧ Kd.FK k37 W (fun k => ok k ∧ k ≠ g) xs[i] [.slice A0 (xs[i]).f0.length c0, .int .i64 (xs[i]).f1.f0, .int .i64 (xs[i]).f1.f1] := by
 have hn := (Kd.N_reads' HO).1
 obtain ⟨cs, hl, hK, hc, _⟩ := Kd.N_elem HO z37 (i : Int) (by omega) (by omega)
 rw [Int.toNat_natCast, List.getD_eq_getElem?_getD, List.getElem?_eq_getElem hi] at hK
 rw [Int.toNat_natCast] at hc
 obtain ⟨A0, c0, rfl, l0, g0⟩ := k37_open (Kd.FK_now hK)
 exact ⟨A0, c0, hc 0 _ rfl, hc 1 _ rfl, hc 2 _ rfl, l0, g0, hK⟩
def mapV (op : ByteArray) (s : Ser) : Ser := ⟨s.f0, ⟨(vDo op [(s.f1.f0, s.f1.f1)]).1.1, (vDo op [(s.f1.f0, s.f1.f1)]).1.2⟩⟩
/-- An operation of each value. -/
def vMap (op : ByteArray) (l : List Ser) : List Ser × Int := if (vSort l).2 = 0 then (if (vDo op [(1, 0)]).2 = 0 then ((vSort l).1.map (mapV op), 0) else ([], 2)) else ([], (vSort l).2)
theorem vSort_strict {l : List Ser} (h1 : ∀ x ∈ l, isSet x.f0 = true) (h2 : ∀ x ∈ l, isV (x.f1.f0, x.f1.f1)) (h3 : Strict cmpSer l) (h4 : l.length ≤ 200) : vSort l = (l, 0) := by
 have e := isort_id cmpSer3 (h3.sorted cmpSer3)
 unfold vSort
 rw [if_neg (by
  intro h
  obtain ⟨x, hx, hb⟩ := List.any_eq_true.1 h
  rw [h1 x hx] at hb
  cases hb), if_neg (by
  intro h
  obtain ⟨x, hx, hb⟩ := List.any_eq_true.1 h
  unfold badVal at hb
  rw [decide_eq_true (h2 x hx)] at hb
  cases hb), e, if_neg (by rw [adj_apart h3.apart]; simp), if_neg (by omega)]
theorem vSort_isStrict {l : List Ser} (h : (vSort l).2 = 0) : Strict cmpSer (vSort l).1 := by
 rw [(vSort_ok h).2.2.2.2]
 exact adj_sorted cmpSer3 (isort_sorted cmpSer3.ord l) (vSort_ok h).2.2.1
theorem sers_ok {l : List Ser} (h : (vSort l).2 = 0) : SersOk (vSort l).1 := by
 have hl := vSort_len h
 refine ⟨by omega, fun x hx => ?_⟩
 have := set_ok ((vSort_ok h).1 x ((vSort_mem h).1 hx))
 exact ⟨by omega, this.1⟩
theorem ljoin_calls (A B : Option Addr) (ca cb : Nat) (a b : List Lab) (ha : LabsOk a) (hb : LabsOk b) (hn : (a.length + b.length) * 32 ≤ 140737488355328) (w : World) (hA : Kd.C k62 w A a.length a) (hB : Kd.C k62 w B b.length b) :
  Calls Tryz.prog 64 #[.slice A a.length ca, .slice B b.length cb] w fun e w' => ∃ v : Value, e = .returned (.tuple #[v, .bool (vJoinL a b).2]) ∧ Kd.R k62 62 w' w.heap.size (fun _ => True) v (vJoinL a b).1 ∧ Below w.heap.size w w' := by
 generalize hrr : vJoinL a b = r
 have HRR := Sd.mk hrr
 have HA := Sd.mk hA
 have HB := Sd.mk hB
 have HN := Sd.mk hn
 have HLA := Sd.mk ha
 have HLB := Sd.mk hb
 have hbl : b.length < 4611686018427387904 := hb.1
 clear hrr hA hB hn ha hb
 have mixed : Tryz.prog.follows .mixedOrders = true := by kernel_rfl
 go_enter Tryz.func64, Tryz.ntmps64
 go_wp2_with (go_at_call 105; refine (cloneLabel A ca a _ HA.out (by have := HN.out; omega)).mono ?_; rintro e w2 ⟨v, rfl, hv, hb2⟩; have HV := Sd.mk hv; have HB2 := Sd.mk hb2; clear hv hb2)
 go_loopw [6, 16] (fun v6 v16 wr => ∃ (i : Nat) (all : List Lab), i ≤ b.length ∧ v16 = .int .i64 i ∧ Sd (joinGo a a b = joinGo a all (b.drop i)) ∧ Sd (all.length ≤ a.length + i) ∧ Sd (∀ x ∈ all, x ∈ a ∨ x ∈ b) ∧ Sd (Kd.R k62 62 wr w.heap.size (fun _ => True) v6 all) ∧ Sd (Below w.heap.size w wr)) (fun _ v16 _ => b.length - (intOf v16).toNat)
 case atStart => exact ⟨0, a, Nat.zero_le _, rfl, ⟨rfl⟩, ⟨Nat.le_refl _⟩, ⟨fun x h => .inl h⟩, HV, HB2⟩
 case round =>
  clear HV HB2
  obtain ⟨i, all, hi, rfl, HT, HG, HI, HO, HW⟩ := hrel
  by_cases hlt : i < b.length
  ·have b1 : (i : Int) < (b.length : Int) := by omega
   obtain ⟨ad, rfl, p0, p1⟩ := at_T62 (Kd.C_below HB.out HW.out) (i : Int) (by omega) (by omega)
   rw [Int.toNat_natCast, rdL_at hlt] at p0 p1
   have hst : joinGo a all (b.drop i) = if getL a b[i].f0 = ⟨#[]⟩ then joinGo a (all ++ [b[i]]) (b.drop (i + 1)) else if getL a b[i].f0 = b[i].f1 then joinGo a all (b.drop (i + 1)) else none := by rw [List.drop_eq_getElem_cons hlt, joinGo]
   have HX := Sd.mk (HT.out.trans hst)
   have HXB := Sd.mk (List.getElem_mem hlt)
   clear hst HT
   generalize b[i] = y at p0 p1 HX HXB
   obtain ⟨s, t⟩ := y
   simp only at p0 p1 HX
   have hb0 := bal (Below.refl wr.heap.size wr) (.cells #[.string s, .string t] 62)
   have HGet := Sd.mk (get_calls A ca a s _ (Kd.C_below HA.out (HW.out.trans (hb0.mono HW.out.size))))
   have X0 := Sd.mk (blk_new wr (.cells #[.string s, .string t] 62))
   have HB0 := Sd.mk hb0
   clear hb0
   generalize getL a s = g at HGet HX
   by_cases he : g = ⟨#[]⟩
   ·subst he
    have HZ := Sd.mk (HX.out.trans (if_pos rfl))
    clear HX
    go_wp2_with fail
    refine HGet.out.mono ?_
    rintro e w1 ⟨rfl, hb1⟩
    have H1 := Sd.mk (HB0.out.trans (hb1.mono HB0.out.size))
    have c0 := (blk_cell (blk_below X0.out hb1) 0).trans rfl
    have c1 := (blk_cell (blk_below X0.out hb1) 1).trans rfl
    clear hb1
    have HO1 := Sd.mk (Kd.R_below HO.out H1.out)
    have HW1 := Sd.mk (HW.out.trans (H1.out.mono HW.out.size))
    go_wp2_with ((with_reducible refine gate_builtin (b := .append) (xs := #[.tmp 27, .tmp 29]) rfl ?_); at_builtin; refine Kd.R_append k62 (w0 := w) w.heap.size rfl (.tmp 27) (.tmp 29) 35 62 (.agg #[(.string ⟨#[]⟩), (.string ⟨#[]⟩)]) 32 rfl Tryz.underlying35 info62 rfl (by decide) (by omega) u6 all (⟨s, t⟩ : Lab) [.string s, .string t] (fun _ => True) (fun _ => False) rfl rfl ?aP (fun _ hk => hk.elim) ?aF ?aO ?aB ?aS ?aL ?_; (case aP => exact k62_mkM _ _ _ (⟨s, t⟩ : Lab)); (case aB => exact HW1.out); (case aF => exact (fun _ _ => trivial)); (case aO => exact HO1.out); (case aS => exact HW1.out.size); (case aL => have := HG.out; have := HN.out; omega); intro v7 w3 ho hb3 hg hat; have HO2 := Sd.mk ho; have HW2 := Sd.mk hb3; clear ho hb3 hg hat)
    go_roundw
    case rel => exact ⟨i + 1, all ++ [⟨s, t⟩], by omega, by go_num, HZ, ⟨by have := HG.out; simp; omega⟩, ⟨fun x hx => by
     rcases List.mem_append.1 hx with h | h
     ·exact HI.out x h
     ·rw [List.mem_singleton.1 h]; exact .inr HXB.out⟩, HO2, HW2⟩
    case measure => simp [intOf]; omega
   ·have hX2 := HX.out
    rw [if_neg he] at hX2
    have e0 : ¬ g.toList = ([] : List UInt8) := fun h => he ((toList_eq g ⟨#[]⟩).1 (h.trans (by rw [Lib.toList_data])))
    have e1 : (g.toList == ([] : List UInt8)) = false := by simpa using e0
    have e2 : g.toList.isEmpty = false := by simpa using e0
    clear HX he
    by_cases ht : g = t
    ·subst ht
     rw [if_pos rfl] at hX2
     have HZ := Sd.mk hX2
     clear hX2
     go_wp2_with fail
     refine HGet.out.mono ?_
     rintro e w1 ⟨rfl, hb1⟩
     have H1 := Sd.mk (HB0.out.trans (hb1.mono HB0.out.size))
     have c0 := (blk_cell (blk_below X0.out hb1) 0).trans rfl
     have c1 := (blk_cell (blk_below X0.out hb1) 1).trans rfl
     clear hb1
     have HO1 := Sd.mk (Kd.R_below HO.out H1.out)
     have HW1 := Sd.mk (HW.out.trans (H1.out.mono HW.out.size))
     go_wp2
     go_roundw
     case rel => exact ⟨i + 1, all, by omega, by go_num, HZ, ⟨by have := HG.out; omega⟩, HI, HO1, HW1⟩
     case measure => simp [intOf]; omega
    ·rw [if_neg ht] at hX2
     have HZ := Sd.mk hX2
     have f0 : (g.toList == t.toList) = false := by rw [beq_eq_false_iff_ne]; exact fun h => ht ((toList_eq _ _).1 h)
     have f1 : ¬ g.toList = t.toList := fun h => ht ((toList_eq _ _).1 h)
     clear hX2 ht
     go_wp2_with fail
     refine HGet.out.mono ?_
     rintro e w1 ⟨rfl, hb1⟩
     have H1 := Sd.mk (HB0.out.trans (hb1.mono HB0.out.size))
     have c0 := (blk_cell (blk_below X0.out hb1) 0).trans rfl
     have c1 := (blk_cell (blk_below X0.out hb1) 1).trans rfl
     clear hb1
     have HW1 := Sd.mk (HW.out.trans (H1.out.mono HW.out.size))
     go_wp2
     go_ret2
     have er : r = ([], false) := by rw [← HRR.out]; unfold vJoinL; rw [HZ.out]
     exact ⟨.slice none 0 0, by rw [er]; rfl, by rw [er]; exact Kd.R_nil _ _ _ _ _, HW1.out⟩
  ·have n1 : decide ((i : Int) < (b.length : Int)) = false := decide_eq_false (by omega)
   have n2 : decide (i < b.length) = false := decide_eq_false hlt
   have hz : joinGo a a b = some all := by rw [HT.out, List.drop_of_length_le (by omega), joinGo]
   have er0 : r = ((vMake all).1, (vMake all).2 == 0) := by rw [← HRR.out]; unfold vJoinL; rw [hz]
   have hal : all.length ≤ a.length + b.length := by have := HG.out; omega
   have hok : LabsOk all := ⟨by have := HN.out; omega, fun x hx => (HI.out x hx).elim (HLA.out.2 x) (HLB.out.2 x)⟩
   obtain ⟨A3, c3, rfl, _, hC3⟩ := Kd.R_reads HO.out
   have HM := Sd.mk (lmake_calls A3 c3 all hok (by have := HN.out; omega) wr hC3)
   generalize vMake all = m at er0 HM
   obtain ⟨ml, me⟩ := m
   simp only at er0 HM
   have ER := Sd.mk er0
   clear er0 hok hC3 hz hal HT hi hlt
   go_wp2_with fail
   refine HM.out.mono ?_
   rintro e w1 ⟨v, rfl, hv, hb1⟩
   have HV := Sd.mk (Kd.R_lower hv HW.out.size)
   have HE := Sd.mk (HW.out.trans (hb1.mono HW.out.size))
   clear hv hb1
   go_wp2
   go_ret2
   have er := ER.out
   exact ⟨v, by rw [er]; rfl, by rw [er]; exact HV.out, HE.out⟩
end Go.Proofs.YtcmiehddjgfjaaaGreat.A
