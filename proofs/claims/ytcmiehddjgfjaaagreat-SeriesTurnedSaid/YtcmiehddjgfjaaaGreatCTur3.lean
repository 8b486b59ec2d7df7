/- A part of the proof of LawSeriesTurned: contracts and plain laws, put together by a program of this session. -/
import Derived.Test.YtcmiehddjgfjaaaGreatCTur2
import Derived.Lib.SliceRun
import Derived.Laws.Rows
import Derived.Laws.IdiomCopy
import Derived.Deep.LoopGhost
import Derived.Test.YtcmiehddjgfjaaaGreatProg
import Derived.Below
import Derived.Deep.Draws
import Derived.Deep.AppendLies
import Derived.Maps.AppendAt
import Derived.OwnWalk
import Derived.Laws.BytesArg
import Derived.Laws.MakeOwn
import Derived.Laws.OwnMore
import Derived.Deep.OwnRows
import Derived.Tactics
import Derived.Lib.ConvBytes
import Derived.Laws.Slices
import Derived.WalkKit
import Derived.KernelRfl
import Derived.RowKit3
import Derived.Deep.QuietTactic
import Derived.BigQuiet
import Derived.WideLaws
import Derived.Deep.DeepCutAuto
import Derived.Deep.CutBlock
import Derived.Deep.RegionHeld3
import Derived.Lib.AppendStr
import Derived.ArgAppend
import Derived.OrdersHeld
import Derived.Laws.BitsLemmas
import Derived.RowKit
import Derived.Lib.SlBuf
import Derived.Deep.RegionLaw
import Derived.RangeFuncNested
import Derived.RangeFuncBound
import Derived.RangeFuncCalls
import Derived.RangeFuncLeaves
import Derived.RangeFuncBox
import Derived.Shelf.Abstract
import Derived.Shelf.RegionOpen
import Derived.OwnWalkIn
import Derived.TacticsInMore
import Derived.LoopNIn
import Derived.LoopIn
import Derived.Shelf.SlSortCmp.ReverseRangeK
import Derived.Deep.Cut
import Derived.Shelf.Small.Strs
set_option linter.unusedVariables false
set_option linter.unusedSimpArgs false
set_option linter.unusedSectionVars false
set_option maxHeartbeats 8000000
set_option maxRecDepth 100000
namespace Go.Proofs.YtcmiehddjgfjaaaGreat.A
open Go.RowKit Go.Proofs.YtcmiehddjgfjaaaGreatW.PrintWords Go.Proofs.YtcmiehddjgfjaaaGreatW.PrintLast Go.Proofs.YtcmiehddjgfjaaaGreatW.PrintMore
def layV_ren : Go.Shelf.Ren := ⟨fun | 6 => 110 | 8 => 73 | n => n, fun | 22 => 47 | 23 => 25 | 25 => 49 | n => n, fun | n => n⟩
theorem layV : Go.Proofs.SlLaysH0.n8 Tryz.prog layV_ren := {
  mixed := by kernel_rfl
  f6 := ⟨Tryz.f110.name, by decide, Tryz.func110.trans (congrArg some (by kernel_rfl))⟩
  f8 := ⟨Tryz.f73.name, by decide, Tryz.func73.trans (congrArg some (by kernel_rfl))⟩
  t0 := Tryz.underlying0
  a0 := Tryz.isAgg0
  z0 := Tryz.sizeOf0
  v0 := Tryz.zeroValue0
  t3 := Tryz.underlying3
  a3 := Tryz.isAgg3
  z3 := Tryz.sizeOf3
  v3 := Tryz.zeroValue3
  t4 := Tryz.underlying4
  a4 := Tryz.isAgg4
  z4 := Tryz.sizeOf4
  v4 := Tryz.zeroValue4
  t22 := Tryz.underlying47
  a22 := Tryz.isAgg47
  z22 := Tryz.sizeOf47
  v22 := Tryz.zeroValue47
  t25 := Tryz.underlying49
  a25 := Tryz.isAgg49
  z25 := Tryz.sizeOf49
  v25 := Tryz.zeroValue49 }
abbrev sv (x : S25) : V := (x.f0, x.f1)
def badV (x : S25) : Bool := !decide (isV (sv x))
theorem check1_calls (x : S25) (w : World) : Calls Tryz.prog 74 #[.agg #[.int .i64 x.f0, .int .i64 x.f1]] w fun e w' => e = .returned (.bool (badV x)) ∧ Below w.heap.size w w' :=
  v_Check_1.calls x.f0 x.f1 _ w (by
    unfold v_Check_1.f
    rw [is_is (sv x)]; rfl)
def v_Check.f (l : List S25) : Option Int := some (if l.any badV then 80 else 0)
theorem v_Check.calls (A0 : Option Addr) (c0 : Nat) (l0 : List S25) (r : Int) (w : World) (hr0 : Kd.C k25 w A0 l0.length l0) (hc0 : l0.length ≤ c0) (h : v_Check.f l0 = some r) :
    Calls Tryz.prog 33 #[.slice A0 l0.length c0] w fun e w' => e = .returned (.int .i64 r) ∧ Below w.heap.size w w' := by
  injection h with h
  subst h
  have eg : ∀ args w, (callFunc 74 args).run Tryz.prog w = .ok (.enter 74 args) w := enters_of Tryz.func74 (by kernel_rfl) rfl
  have hi := Go.Proofs.YtcmiehddjgfjaaaGreat.I.containsFunc layV k25 z25 Tryz.isAgg25 Tryz.sizeOf25 badV 74 #[] eg A0 c0 l0 w hr0 (fun x _ w1 cs _ hK => by
    obtain rfl := k25_open hK
    exact check1_calls x w1)
  change Calls Tryz.prog 73 _ _ _ at hi
  generalize l0.any badV = r at hi
  have HI := Sd.mk hi
  clear hi hr0
  go_enter Tryz.func33, Tryz.ntmps33
  go_wp2_with (go_at_call 73; refine HI.out.mono ?_; rintro e w' ⟨rfl, hb'⟩; have HB := Sd.mk hb'; clear hb')
  all_goals
    go_ret
    exact ⟨by simp_all, HB.out⟩
open Go.Proofs.YtcmiehddjgfjaaaGreat.V
def vDo (op : ByteArray) (l : List V) : V × Int :=
  if l.any (fun x => !decide (isV x)) = true then ((0, 0), 80) else
  match l with
  | [a] => (match tab1.lookup op with | some F => (F a, 0) | none => ((0, 0), 2))
  | [a, b] => (match tab2.lookup op with | some F => (if a.1 = 2 ∨ b.1 = 2 then ((2, 0), 0) else (F a b, 0)) | none => ((0, 0), 2))
  | _ => ((0, 0), 2)
theorem any_sv (l : List S25) : (l.map sv).any (fun x => !decide (isV x)) = l.any badV := by rw [List.any_map]; rfl
theorem Ents1.find_none {r : Nat} {w : World} {l t} (h : Ents1 r w l t) {op : ByteArray} (ht : t.lookup op = none) : l.lookup op = none := by
  rcases h.find op with ⟨h1, _⟩ | ⟨f, F, _, h2, _⟩
  · exact h1
  · rw [ht] at h2; exact absurd h2 (by simp)
theorem Ents1.find_some {r : Nat} {w : World} {l t} (h : Ents1 r w l t) {op : ByteArray} {F : V → V} (ht : t.lookup op = some F) : ∃ f, l.lookup op = some f ∧ At1 f r w F := by
  rcases h.find op with ⟨_, h2⟩ | ⟨f, F', h1, h2, h3⟩
  · rw [ht] at h2; exact absurd h2 (by simp)
  · rw [ht] at h2; injection h2 with h2; subst h2; exact ⟨f, h1, h3⟩
theorem Ents2.find_none {r : Nat} {w : World} {l t} (h : Ents2 r w l t) {op : ByteArray} (ht : t.lookup op = none) : l.lookup op = none := by
  rcases h.find op with ⟨h1, _⟩ | ⟨f, F, _, h2, _⟩
  · exact h1
  · rw [ht] at h2; exact absurd h2 (by simp)
theorem Ents2.find_some {r : Nat} {w : World} {l t} (h : Ents2 r w l t) {op : ByteArray} {F : V → V → V} (ht : t.lookup op = some F) : ∃ f, l.lookup op = some f ∧ At2 f r w F := by
  rcases h.find op with ⟨_, h2⟩ | ⟨f, F', h1, h2, h3⟩
  · rw [ht] at h2; exact absurd h2 (by simp)
  · rw [ht] at h2; injection h2 with h2; subst h2; exact ⟨f, h1, h3⟩
theorem null_calls (w : World) : Calls Tryz.prog 39 #[] w fun e w' => e = .returned (vv (2, 0)) ∧ Below w.heap.size w w' := by
  go_enter Tryz.func39, Tryz.ntmps39
  go_wp2
  refine bodyPost_ret (v := vv (2, 0)) (by simp [results, Tryz.results39, go_sem]) rfl ⟨rfl, ?_⟩
  repeat (first | exact Below.refl _ _ | (refine Below.alloc ?_ (by simp) _) | (refine Below.setCell ?_ (by simp) _))
section
variable (a0 : ByteArray) (c1 : Nat) (w : World)
theorem do_bad (A1 : Option Addr) (n : Nat) (hC : ∀ w1, Below w.heap.size w w1 → Calls Tryz.prog 33 #[.slice A1 n c1] w1 fun e w' => e = .returned (.int .i64 80) ∧ Below w1.heap.size w1 w') :
    Calls Tryz.prog 45 #[.string a0, .slice A1 n c1] w fun e w' => e = .returned (.tuple #[vv (0, 0), .int .i64 80]) ∧ Below w.heap.size w w' := by
  have hb0 : Below w.heap.size w (w.alloc (.cells #[.int .i64 0, .int .i64 0] 25)) := below_one w _
  have r0 : (w.alloc (.cells #[.int .i64 0, .int .i64 0] 25)).heap[w.heap.size]? = some (.cells #[.int .i64 0, .int .i64 0] 25 (0, 0)) := blk_new w _
  have m0 := cell_of_row _ _ 0 _ _ _ r0
  have m1 := cell_of_row _ _ 1 _ _ _ r0
  have z0 := blk_frozen r0 0
  have z1 := blk_frozen r0 1
  simp only [List.getElem?_toArray, List.getElem?_cons_zero, List.getElem?_cons_succ] at m0 m1
  have HB := Sd.mk hb0
  have HC := Sd.mk (hC _ hb0)
  clear hC
  go_enter Tryz.func45, Tryz.ntmps45
  go_wp2_with fail
  generalize w.alloc (.cells #[.int .i64 0, .int .i64 0] 25) = W1 at HB HC m0 m1 z0 z1 ⊢
  clear hb0 r0
  go_wp2_with (go_at_call 33; refine HC.out.mono ?_; rintro e w1 ⟨rfl, hb1⟩; have m0_ := m0; have m1_ := m1; have m0 := pw_cell_below hb1 m0_; have m1 := pw_cell_below hb1 m1_; have z0 := fz_below hb1 m0_ z0; have z1 := fz_below hb1 m1_ z1; clear m0_ m1_; have HB := Sd.mk (HB.out.trans (hb1.mono HB.out.size)); clear hb1)
  exact bodyPost_ret (v := .tuple #[vv (0, 0), .int .i64 80]) (by simp [results, Tryz.results45, go_sem, m0, m1]) rfl ⟨rfl, (HB.out.setCell (by simp) _).setCell (by simp) _⟩
theorem do_len (A1 : Option Addr) (n : Nat) (h1 : n ≠ 1) (h2 : n ≠ 2) (hC : ∀ w1, Below w.heap.size w w1 → Calls Tryz.prog 33 #[.slice A1 n c1] w1 fun e w' => e = .returned (.int .i64 0) ∧ Below w1.heap.size w1 w') :
    Calls Tryz.prog 45 #[.string a0, .slice A1 n c1] w fun e w' => e = .returned (.tuple #[vv (0, 0), .int .i64 2]) ∧ Below w.heap.size w w' := by
  have n1 : ((n : Int) == 1) = false := beq_eq_false_iff_ne.2 (by omega)
  have n2 : ((n : Int) == 2) = false := beq_eq_false_iff_ne.2 (by omega)
  clear h1 h2
  have hb0 : Below w.heap.size w (w.alloc (.cells #[.int .i64 0, .int .i64 0] 25)) := below_one w _
  have r0 : (w.alloc (.cells #[.int .i64 0, .int .i64 0] 25)).heap[w.heap.size]? = some (.cells #[.int .i64 0, .int .i64 0] 25 (0, 0)) := blk_new w _
  have m0 := cell_of_row _ _ 0 _ _ _ r0
  have m1 := cell_of_row _ _ 1 _ _ _ r0
  have z0 := blk_frozen r0 0
  have z1 := blk_frozen r0 1
  simp only [List.getElem?_toArray, List.getElem?_cons_zero, List.getElem?_cons_succ] at m0 m1
  have HB := Sd.mk hb0
  have HC := Sd.mk (hC _ hb0)
  clear hC
  go_enter Tryz.func45, Tryz.ntmps45
  go_wp2_with fail
  generalize w.alloc (.cells #[.int .i64 0, .int .i64 0] 25) = W1 at HB HC m0 m1 z0 z1 ⊢
  clear hb0 r0
  go_wp2_with (go_at_call 33; refine HC.out.mono ?_; rintro e w1 ⟨rfl, hb1⟩; have m0_ := m0; have m1_ := m1; have m0 := pw_cell_below hb1 m0_; have m1 := pw_cell_below hb1 m1_; have z0 := fz_below hb1 m0_ z0; have z1 := fz_below hb1 m1_ z1; clear m0_ m1_; have HB := Sd.mk (HB.out.trans (hb1.mono HB.out.size)); clear hb1)
  exact bodyPost_ret (v := .tuple #[vv (0, 0), .int .i64 2]) (by simp [results, Tryz.results45, go_sem, m0, m1]) rfl ⟨rfl, (HB.out.setCell (by simp) _).setCell (by simp) _⟩
theorem do_one_none (A : Addr) (x0 x1 : Int) (ht : tab1.lookup a0 = none) (hp0 : w.cell? A = some (.int .i64 x0)) (hp1 : w.cell? ⟨A.block, A.off + 1, none⟩ = some (.int .i64 x1)) (hC : ∀ w1, Below w.heap.size w w1 → Calls Tryz.prog 33 #[.slice (some A) 1 c1] w1 fun e w' => e = .returned (.int .i64 0) ∧ Below w1.heap.size w1 w') :
    Calls Tryz.prog 45 #[.string a0, .slice (some A) 1 c1] w fun e w' => e = .returned (.tuple #[vv (0, 0), .int .i64 2]) ∧ Below w.heap.size w w' := by
  have HT := Sd.mk ht
  clear ht
  have hb0 : Below w.heap.size w (w.alloc (.cells #[.int .i64 0, .int .i64 0] 25)) := below_one w _
  have r0 : (w.alloc (.cells #[.int .i64 0, .int .i64 0] 25)).heap[w.heap.size]? = some (.cells #[.int .i64 0, .int .i64 0] 25 (0, 0)) := blk_new w _
  have m0 := cell_of_row _ _ 0 _ _ _ r0
  have m1 := cell_of_row _ _ 1 _ _ _ r0
  have z0 := blk_frozen r0 0
  have z1 := blk_frozen r0 1
  simp only [List.getElem?_toArray, List.getElem?_cons_zero, List.getElem?_cons_succ] at m0 m1
  have HB := Sd.mk hb0
  have p0 := pw_cell_below hb0 hp0
  have p1 := pw_cell_below hb0 hp1
  have HC := Sd.mk (hC _ hb0)
  clear hC hp0 hp1
  go_enter Tryz.func45, Tryz.ntmps45
  go_wp2_with fail
  generalize w.alloc (.cells #[.int .i64 0, .int .i64 0] 25) = W1 at HB HC p0 p1 m0 m1 z0 z1 ⊢
  clear hb0 r0
  go_wp2_with (first
    | (go_at_call 33; refine HC.out.mono ?_; rintro e w1 ⟨rfl, hb1⟩; have p0 := pw_cell_below hb1 p0; have p1 := pw_cell_below hb1 p1; have m0_ := m0; have m1_ := m1; have m0 := pw_cell_below hb1 m0_; have m1 := pw_cell_below hb1 m1_; have z0 := fz_below hb1 m0_ z0; have z1 := fz_below hb1 m1_ z1; clear m0_ m1_; have HB := Sd.mk (HB.out.trans (hb1.mono HB.out.size)); clear hb1)
    | (go_at_call 82; refine (ones_calls _).mono ?_; rintro e w1 ⟨r, l, rfl, mk⟩; have hb1 := mk.b; have p0 := pw_cell_below hb1 p0; have p1 := pw_cell_below hb1 p1; have hlk := run_find (Tryz.underlying103) (Tryz.underlying9) mk.m a0 .nilFunc (Tryz.zeroValue101 _); rw [mk.e.find_none HT.out] at hlk; clear mk; have m0_ := m0; have m1_ := m1; have m0 := pw_cell_below hb1 m0_; have m1 := pw_cell_below hb1 m1_; have z0 := fz_below hb1 m0_ z0; have z1 := fz_below hb1 m1_ z1; clear m0_ m1_; have HB := Sd.mk (HB.out.trans (hb1.mono HB.out.size)); clear hb1))
  exact bodyPost_ret (v := .tuple #[vv (0, 0), .int .i64 2]) (by simp [results, Tryz.results45, go_sem, m0, m1]) rfl ⟨rfl, (HB.out.setCell (by simp) _).setCell (by simp) _⟩
theorem do_one (A : Addr) (x0 x1 : Int) (F : V → V) (ht : tab1.lookup a0 = some F) (r1 r2 : Int) (hF : F (x0, x1) = (r1, r2)) (hv : isV (x0, x1)) (hp0 : w.cell? A = some (.int .i64 x0)) (hp1 : w.cell? ⟨A.block, A.off + 1, none⟩ = some (.int .i64 x1)) (hC : ∀ w1, Below w.heap.size w w1 → Calls Tryz.prog 33 #[.slice (some A) 1 c1] w1 fun e w' => e = .returned (.int .i64 0) ∧ Below w1.heap.size w1 w') :
    Calls Tryz.prog 45 #[.string a0, .slice (some A) 1 c1] w fun e w' => e = .returned (.tuple #[vv (r1, r2), .int .i64 0]) ∧ Below w.heap.size w w' := by
  have HT := Sd.mk ht
  clear ht
  have HF := Sd.mk hF
  have HV := Sd.mk hv
  clear hF hv
  have hb0 : Below w.heap.size w (w.alloc (.cells #[.int .i64 0, .int .i64 0] 25)) := below_one w _
  have r0 : (w.alloc (.cells #[.int .i64 0, .int .i64 0] 25)).heap[w.heap.size]? = some (.cells #[.int .i64 0, .int .i64 0] 25 (0, 0)) := blk_new w _
  have m0 := cell_of_row _ _ 0 _ _ _ r0
  have m1 := cell_of_row _ _ 1 _ _ _ r0
  have z0 := blk_frozen r0 0
  have z1 := blk_frozen r0 1
  simp only [List.getElem?_toArray, List.getElem?_cons_zero, List.getElem?_cons_succ] at m0 m1
  have HB := Sd.mk hb0
  have p0 := pw_cell_below hb0 hp0
  have p1 := pw_cell_below hb0 hp1
  have HC := Sd.mk (hC _ hb0)
  clear hC hp0 hp1
  go_enter Tryz.func45, Tryz.ntmps45
  go_wp2_with fail
  generalize w.alloc (.cells #[.int .i64 0, .int .i64 0] 25) = W1 at HB HC p0 p1 m0 m1 z0 z1 ⊢
  clear hb0 r0
  go_wp2_with (first
    | (go_at_call 33; refine HC.out.mono ?_; rintro e w1 ⟨rfl, hb1⟩; have p0 := pw_cell_below hb1 p0; have p1 := pw_cell_below hb1 p1; have m0_ := m0; have m1_ := m1; have m0 := pw_cell_below hb1 m0_; have m1 := pw_cell_below hb1 m1_; have z0 := fz_below hb1 m0_ z0; have z1 := fz_below hb1 m1_ z1; clear m0_ m1_; have HB := Sd.mk (HB.out.trans (hb1.mono HB.out.size)); clear hb1)
    | (first
      | (go_at_call 82; refine (ones_calls _).mono ?_; rintro e w1 ⟨r, l, rfl, mk⟩; have hb1 := mk.b; have p0 := pw_cell_below hb1 p0; have p1 := pw_cell_below hb1 p1; obtain ⟨f, hf1, g, cb, rfl, eg, hf2⟩ := mk.e.find_some HT.out; have hlk := run_find (Tryz.underlying103) (Tryz.underlying9) mk.m a0 .nilFunc (Tryz.zeroValue101 _); rw [hf1] at hlk; have HG := Sd.mk (hf2 w1 (Keeps.refl _ _) (x0, x1) HV.out); clear mk hf1 hf2; simp only at hlk; have m0_ := m0; have m1_ := m1; have m0 := pw_cell_below hb1 m0_; have m1 := pw_cell_below hb1 m1_; have z0 := fz_below hb1 m0_ z0; have z1 := fz_below hb1 m1_ z1; clear m0_ m1_; have HB := Sd.mk (HB.out.trans (hb1.mono HB.out.size)); clear hb1; rw [HF.out] at HG)
      | (go_at_fn g; refine HG.out.mono ?_; rintro e w1 ⟨rfl, hb1⟩; have m0_ := m0; have m1_ := m1; have m0 := pw_cell_below hb1 m0_; have m1 := pw_cell_below hb1 m1_; have z0 := fz_below hb1 m0_ z0; have z1 := fz_below hb1 m1_ z1; clear m0_ m1_; have HB := Sd.mk (HB.out.trans (hb1.mono HB.out.size)); clear hb1)))
  exact bodyPost_ret (v := .tuple #[vv (r1, r2), .int .i64 0]) (by simp [results, Tryz.results45, go_sem, m0, m1]) rfl ⟨rfl, (HB.out.setCell (by simp) _).setCell (by simp) _⟩
theorem do_two_none (A : Addr) (x0 x1 y0 y1 : Int) (ht : tab2.lookup a0 = none) (hp0 : w.cell? A = some (.int .i64 x0)) (hp1 : w.cell? ⟨A.block, A.off + 1, none⟩ = some (.int .i64 x1)) (hq0 : w.cell? ⟨A.block, A.off + 2, none⟩ = some (.int .i64 y0)) (hq1 : w.cell? ⟨A.block, A.off + 2 + 1, none⟩ = some (.int .i64 y1)) (hC : ∀ w1, Below w.heap.size w w1 → Calls Tryz.prog 33 #[.slice (some A) 2 c1] w1 fun e w' => e = .returned (.int .i64 0) ∧ Below w1.heap.size w1 w') :
    Calls Tryz.prog 45 #[.string a0, .slice (some A) 2 c1] w fun e w' => e = .returned (.tuple #[vv (0, 0), .int .i64 2]) ∧ Below w.heap.size w w' := by
  have HT := Sd.mk ht
  clear ht
  have hb0 : Below w.heap.size w (w.alloc (.cells #[.int .i64 0, .int .i64 0] 25)) := below_one w _
  have r0 : (w.alloc (.cells #[.int .i64 0, .int .i64 0] 25)).heap[w.heap.size]? = some (.cells #[.int .i64 0, .int .i64 0] 25 (0, 0)) := blk_new w _
  have m0 := cell_of_row _ _ 0 _ _ _ r0
  have m1 := cell_of_row _ _ 1 _ _ _ r0
  have z0 := blk_frozen r0 0
  have z1 := blk_frozen r0 1
  simp only [List.getElem?_toArray, List.getElem?_cons_zero, List.getElem?_cons_succ] at m0 m1
  have HB := Sd.mk hb0
  have p0 := pw_cell_below hb0 hp0
  have p1 := pw_cell_below hb0 hp1
  have q0 := pw_cell_below hb0 hq0
  have q1 := pw_cell_below hb0 hq1
  have q2 : (w.alloc (.cells #[.int .i64 0, .int .i64 0] 25)).cell? ⟨A.block, A.off + 3, none⟩ = some (.int .i64 y1) := q1
  have HC := Sd.mk (hC _ hb0)
  clear hC hp0 hp1 hq0 hq1
  go_enter Tryz.func45, Tryz.ntmps45
  go_wp2_with fail
  generalize w.alloc (.cells #[.int .i64 0, .int .i64 0] 25) = W1 at HB HC p0 p1 q0 q1 q2 m0 m1 z0 z1 ⊢
  clear hb0 r0
  go_wp2_with (first
    | (go_at_call 33; refine HC.out.mono ?_; rintro e w1 ⟨rfl, hb1⟩; have p0 := pw_cell_below hb1 p0; have p1 := pw_cell_below hb1 p1; have q0 := pw_cell_below hb1 q0; have q1 := pw_cell_below hb1 q1; have q2 := pw_cell_below hb1 q2; have m0_ := m0; have m1_ := m1; have m0 := pw_cell_below hb1 m0_; have m1 := pw_cell_below hb1 m1_; have z0 := fz_below hb1 m0_ z0; have z1 := fz_below hb1 m1_ z1; clear m0_ m1_; have HB := Sd.mk (HB.out.trans (hb1.mono HB.out.size)); clear hb1)
    | (go_at_call 83; refine (twos_calls _).mono ?_; rintro e w1 ⟨r, l, rfl, mk⟩; have hb1 := mk.b; have p0 := pw_cell_below hb1 p0; have p1 := pw_cell_below hb1 p1; have q0 := pw_cell_below hb1 q0; have q1 := pw_cell_below hb1 q1; have q2 := pw_cell_below hb1 q2; have hlk := run_find (Tryz.underlying107) (Tryz.underlying9) mk.m a0 .nilFunc (Tryz.zeroValue105 _); rw [mk.e.find_none HT.out] at hlk; clear mk; have m0_ := m0; have m1_ := m1; have m0 := pw_cell_below hb1 m0_; have m1 := pw_cell_below hb1 m1_; have z0 := fz_below hb1 m0_ z0; have z1 := fz_below hb1 m1_ z1; clear m0_ m1_; have HB := Sd.mk (HB.out.trans (hb1.mono HB.out.size)); clear hb1))
  exact bodyPost_ret (v := .tuple #[vv (0, 0), .int .i64 2]) (by simp [results, Tryz.results45, go_sem, m0, m1]) rfl ⟨rfl, (HB.out.setCell (by simp) _).setCell (by simp) _⟩
theorem do_two_null (A : Addr) (x0 x1 y0 y1 : Int) (F : V → V → V) (ht : tab2.lookup a0 = some F) (hn : x0 = 2 ∨ y0 = 2) (hp0 : w.cell? A = some (.int .i64 x0)) (hp1 : w.cell? ⟨A.block, A.off + 1, none⟩ = some (.int .i64 x1)) (hq0 : w.cell? ⟨A.block, A.off + 2, none⟩ = some (.int .i64 y0)) (hq1 : w.cell? ⟨A.block, A.off + 2 + 1, none⟩ = some (.int .i64 y1)) (hC : ∀ w1, Below w.heap.size w w1 → Calls Tryz.prog 33 #[.slice (some A) 2 c1] w1 fun e w' => e = .returned (.int .i64 0) ∧ Below w1.heap.size w1 w') :
    Calls Tryz.prog 45 #[.string a0, .slice (some A) 2 c1] w fun e w' => e = .returned (.tuple #[vv (2, 0), .int .i64 0]) ∧ Below w.heap.size w w' := by
  have HT := Sd.mk ht
  clear ht
  have hb0 : Below w.heap.size w (w.alloc (.cells #[.int .i64 0, .int .i64 0] 25)) := below_one w _
  have r0 : (w.alloc (.cells #[.int .i64 0, .int .i64 0] 25)).heap[w.heap.size]? = some (.cells #[.int .i64 0, .int .i64 0] 25 (0, 0)) := blk_new w _
  have m0 := cell_of_row _ _ 0 _ _ _ r0
  have m1 := cell_of_row _ _ 1 _ _ _ r0
  have z0 := blk_frozen r0 0
  have z1 := blk_frozen r0 1
  simp only [List.getElem?_toArray, List.getElem?_cons_zero, List.getElem?_cons_succ] at m0 m1
  have HB := Sd.mk hb0
  have p0 := pw_cell_below hb0 hp0
  have p1 := pw_cell_below hb0 hp1
  have q0 := pw_cell_below hb0 hq0
  have q1 := pw_cell_below hb0 hq1
  have q2 : (w.alloc (.cells #[.int .i64 0, .int .i64 0] 25)).cell? ⟨A.block, A.off + 3, none⟩ = some (.int .i64 y1) := q1
  have HC := Sd.mk (hC _ hb0)
  clear hC hp0 hp1 hq0 hq1
  have c12 : (x0 = 2) ∨ ((x0 == 2) = false ∧ y0 = 2) := by
    by_cases h : x0 = 2
    · exact .inl h
    · exact .inr ⟨beq_eq_false_iff_ne.2 h, hn.resolve_left h⟩
  clear hn
  rcases c12 with rfl | ⟨c1, rfl⟩
  · go_enter Tryz.func45, Tryz.ntmps45
    go_wp2_with fail
    generalize w.alloc (.cells #[.int .i64 0, .int .i64 0] 25) = W1 at HB HC p0 p1 q0 q1 q2 m0 m1 z0 z1 ⊢
    clear hb0 r0
    go_wp2_with (first
      | (go_at_call 33; refine HC.out.mono ?_; rintro e w1 ⟨rfl, hb1⟩; have p0 := pw_cell_below hb1 p0; have p1 := pw_cell_below hb1 p1; have q0 := pw_cell_below hb1 q0; have q1 := pw_cell_below hb1 q1; have q2 := pw_cell_below hb1 q2; have m0_ := m0; have m1_ := m1; have m0 := pw_cell_below hb1 m0_; have m1 := pw_cell_below hb1 m1_; have z0 := fz_below hb1 m0_ z0; have z1 := fz_below hb1 m1_ z1; clear m0_ m1_; have HB := Sd.mk (HB.out.trans (hb1.mono HB.out.size)); clear hb1)
      | (go_at_call 83; refine (twos_calls _).mono ?_; rintro e w1 ⟨r, l, rfl, mk⟩; have hb1 := mk.b; have p0 := pw_cell_below hb1 p0; have p1 := pw_cell_below hb1 p1; have q0 := pw_cell_below hb1 q0; have q1 := pw_cell_below hb1 q1; have q2 := pw_cell_below hb1 q2; obtain ⟨f, hf1, g, cb, rfl, eg, hf2⟩ := mk.e.find_some HT.out; have hlk := run_find (Tryz.underlying107) (Tryz.underlying9) mk.m a0 .nilFunc (Tryz.zeroValue105 _); rw [hf1] at hlk; clear mk hf1 hf2; simp only at hlk; have m0_ := m0; have m1_ := m1; have m0 := pw_cell_below hb1 m0_; have m1 := pw_cell_below hb1 m1_; have z0 := fz_below hb1 m0_ z0; have z1 := fz_below hb1 m1_ z1; clear m0_ m1_; have HB := Sd.mk (HB.out.trans (hb1.mono HB.out.size)); clear hb1)
      | (go_at_call 39; refine (null_calls _).mono ?_; rintro e w1 ⟨rfl, hb1⟩; have m0_ := m0; have m1_ := m1; have m0 := pw_cell_below hb1 m0_; have m1 := pw_cell_below hb1 m1_; have z0 := fz_below hb1 m0_ z0; have z1 := fz_below hb1 m1_ z1; clear m0_ m1_; have HB := Sd.mk (HB.out.trans (hb1.mono HB.out.size)); clear hb1))
    exact bodyPost_ret (v := .tuple #[vv (2, 0), .int .i64 0]) (by simp [results, Tryz.results45, go_sem, m0, m1]) rfl ⟨rfl, (HB.out.setCell (by simp) _).setCell (by simp) _⟩
  · go_enter Tryz.func45, Tryz.ntmps45
    go_wp2_with fail
    generalize w.alloc (.cells #[.int .i64 0, .int .i64 0] 25) = W1 at HB HC p0 p1 q0 q1 q2 m0 m1 z0 z1 ⊢
    clear hb0 r0
    go_wp2_with (first
      | (go_at_call 33; refine HC.out.mono ?_; rintro e w1 ⟨rfl, hb1⟩; have p0 := pw_cell_below hb1 p0; have p1 := pw_cell_below hb1 p1; have q0 := pw_cell_below hb1 q0; have q1 := pw_cell_below hb1 q1; have q2 := pw_cell_below hb1 q2; have m0_ := m0; have m1_ := m1; have m0 := pw_cell_below hb1 m0_; have m1 := pw_cell_below hb1 m1_; have z0 := fz_below hb1 m0_ z0; have z1 := fz_below hb1 m1_ z1; clear m0_ m1_; have HB := Sd.mk (HB.out.trans (hb1.mono HB.out.size)); clear hb1)
      | (go_at_call 83; refine (twos_calls _).mono ?_; rintro e w1 ⟨r, l, rfl, mk⟩; have hb1 := mk.b; have p0 := pw_cell_below hb1 p0; have p1 := pw_cell_below hb1 p1; have q0 := pw_cell_below hb1 q0; have q1 := pw_cell_below hb1 q1; have q2 := pw_cell_below hb1 q2; obtain ⟨f, hf1, g, cb, rfl, eg, hf2⟩ := mk.e.find_some HT.out; have hlk := run_find (Tryz.underlying107) (Tryz.underlying9) mk.m a0 .nilFunc (Tryz.zeroValue105 _); rw [hf1] at hlk; clear mk hf1 hf2; simp only at hlk; have m0_ := m0; have m1_ := m1; have m0 := pw_cell_below hb1 m0_; have m1 := pw_cell_below hb1 m1_; have z0 := fz_below hb1 m0_ z0; have z1 := fz_below hb1 m1_ z1; clear m0_ m1_; have HB := Sd.mk (HB.out.trans (hb1.mono HB.out.size)); clear hb1)
      | (go_at_call 39; refine (null_calls _).mono ?_; rintro e w1 ⟨rfl, hb1⟩; have m0_ := m0; have m1_ := m1; have m0 := pw_cell_below hb1 m0_; have m1 := pw_cell_below hb1 m1_; have z0 := fz_below hb1 m0_ z0; have z1 := fz_below hb1 m1_ z1; clear m0_ m1_; have HB := Sd.mk (HB.out.trans (hb1.mono HB.out.size)); clear hb1))
    exact bodyPost_ret (v := .tuple #[vv (2, 0), .int .i64 0]) (by simp [results, Tryz.results45, go_sem, m0, m1]) rfl ⟨rfl, (HB.out.setCell (by simp) _).setCell (by simp) _⟩
theorem do_two (A : Addr) (x0 x1 y0 y1 : Int) (F : V → V → V) (ht : tab2.lookup a0 = some F) (r1 r2 : Int) (hn : ¬ (x0 = 2 ∨ y0 = 2)) (hF : F (x0, x1) (y0, y1) = (r1, r2)) (hv : isV (x0, x1)) (hu : isV (y0, y1)) (hp0 : w.cell? A = some (.int .i64 x0)) (hp1 : w.cell? ⟨A.block, A.off + 1, none⟩ = some (.int .i64 x1)) (hq0 : w.cell? ⟨A.block, A.off + 2, none⟩ = some (.int .i64 y0)) (hq1 : w.cell? ⟨A.block, A.off + 2 + 1, none⟩ = some (.int .i64 y1)) (hC : ∀ w1, Below w.heap.size w w1 → Calls Tryz.prog 33 #[.slice (some A) 2 c1] w1 fun e w' => e = .returned (.int .i64 0) ∧ Below w1.heap.size w1 w') :
    Calls Tryz.prog 45 #[.string a0, .slice (some A) 2 c1] w fun e w' => e = .returned (.tuple #[vv (r1, r2), .int .i64 0]) ∧ Below w.heap.size w w' := by
  have HT := Sd.mk ht
  clear ht
  have HF := Sd.mk hF
  have HV := Sd.mk hv
  have HU := Sd.mk hu
  have c1 : (x0 == 2) = false := beq_eq_false_iff_ne.2 fun h => hn (Or.inl h)
  have c2 : (y0 == 2) = false := beq_eq_false_iff_ne.2 fun h => hn (Or.inr h)
  clear hF hv hu hn
  have hb0 : Below w.heap.size w (w.alloc (.cells #[.int .i64 0, .int .i64 0] 25)) := below_one w _
  have r0 : (w.alloc (.cells #[.int .i64 0, .int .i64 0] 25)).heap[w.heap.size]? = some (.cells #[.int .i64 0, .int .i64 0] 25 (0, 0)) := blk_new w _
  have m0 := cell_of_row _ _ 0 _ _ _ r0
  have m1 := cell_of_row _ _ 1 _ _ _ r0
  have z0 := blk_frozen r0 0
  have z1 := blk_frozen r0 1
  simp only [List.getElem?_toArray, List.getElem?_cons_zero, List.getElem?_cons_succ] at m0 m1
  have HB := Sd.mk hb0
  have p0 := pw_cell_below hb0 hp0
  have p1 := pw_cell_below hb0 hp1
  have q0 := pw_cell_below hb0 hq0
  have q1 := pw_cell_below hb0 hq1
  have q2 : (w.alloc (.cells #[.int .i64 0, .int .i64 0] 25)).cell? ⟨A.block, A.off + 3, none⟩ = some (.int .i64 y1) := q1
  have HC := Sd.mk (hC _ hb0)
  clear hC hp0 hp1 hq0 hq1
  go_enter Tryz.func45, Tryz.ntmps45
  go_wp2_with fail
  generalize w.alloc (.cells #[.int .i64 0, .int .i64 0] 25) = W1 at HB HC p0 p1 q0 q1 q2 m0 m1 z0 z1 ⊢
  clear hb0 r0
  go_wp2_with (first
    | (go_at_call 33; refine HC.out.mono ?_; rintro e w1 ⟨rfl, hb1⟩; have p0 := pw_cell_below hb1 p0; have p1 := pw_cell_below hb1 p1; have q0 := pw_cell_below hb1 q0; have q1 := pw_cell_below hb1 q1; have q2 := pw_cell_below hb1 q2; have m0_ := m0; have m1_ := m1; have m0 := pw_cell_below hb1 m0_; have m1 := pw_cell_below hb1 m1_; have z0 := fz_below hb1 m0_ z0; have z1 := fz_below hb1 m1_ z1; clear m0_ m1_; have HB := Sd.mk (HB.out.trans (hb1.mono HB.out.size)); clear hb1)
    | (go_at_call 83; refine (twos_calls _).mono ?_; rintro e w1 ⟨r, l, rfl, mk⟩; have hb1 := mk.b; have p0 := pw_cell_below hb1 p0; have p1 := pw_cell_below hb1 p1; have q0 := pw_cell_below hb1 q0; have q1 := pw_cell_below hb1 q1; have q2 := pw_cell_below hb1 q2; obtain ⟨f, hf1, g, cb, rfl, eg, hf2⟩ := mk.e.find_some HT.out; have hlk := run_find (Tryz.underlying107) (Tryz.underlying9) mk.m a0 .nilFunc (Tryz.zeroValue105 _); rw [hf1] at hlk; have HG := Sd.mk (fun w2 (h2 : Keeps r w1 w2) => hf2 w2 h2 (x0, x1) (y0, y1) HV.out HU.out); clear mk hf1 hf2; simp only at hlk; have m0_ := m0; have m1_ := m1; have m0 := pw_cell_below hb1 m0_; have m1 := pw_cell_below hb1 m1_; have z0 := fz_below hb1 m0_ z0; have z1 := fz_below hb1 m1_ z1; clear m0_ m1_; have HB := Sd.mk (HB.out.trans (hb1.mono HB.out.size)); clear hb1; rw [HF.out] at HG))
  go_region_with (go_at_fn g; refine (HG.out _ (Keeps.of_below (Below.refl _ _).drew)).mono ?_; rintro e w1 ⟨rfl, hb1⟩; have m0_ := m0; have m1_ := m1; have m0 := pw_cell_below hb1 m0_; have m1 := pw_cell_below hb1 m1_; have z0 := fz_below hb1 m0_ z0; have z1 := fz_below hb1 m1_ z1; clear m0_ m1_; have HB := Sd.mk (HB.out.trans (((Below.refl _ _).drew.trans hb1).mono HB.out.size)); clear hb1)
  all_goals
    go_wp2_with fail
    exact bodyPost_ret (v := .tuple #[vv (r1, r2), .int .i64 0]) (by simp [results, Tryz.results45, go_sem, m0, m1]) rfl ⟨rfl, (HB.out.setCell (by simp) _).setCell (by simp) _⟩
end
def v_Do.f (a0 : ByteArray) (l1 : List S25) : Option (Int × Int × Int) := some ((vDo a0 (l1.map sv)).1.1, (vDo a0 (l1.map sv)).1.2, (vDo a0 (l1.map sv)).2)
theorem cellz {w : World} {A : Option Addr} {n : Nat} {xs : List S25} (h : Kd.C k25 w A n xs) (i : Nat) (h1 : i < n) : ∃ ad, A = some ad ∧ w.cell? (ad.add (i * 2)) = some (.int .i64 (rd_T25 xs i).f0) ∧ w.cell? ⟨(ad.add (i * 2)).block, (ad.add (i * 2)).off + 1, none⟩ = some (.int .i64 (rd_T25 xs i).f1) := by
  obtain ⟨ad, e, p0, p1⟩ := at_T25 h (i : Int) (by omega) (by omega)
  rw [Int.toNat_natCast] at p0 p1
  exact ⟨ad, e, p0, p1⟩
theorem v_Do.calls (a0 : ByteArray) (A1 : Option Addr) (c1 : Nat) (l1 : List S25) (r1 r2 r3 : Int) (w : World) (hr1 : Kd.C k25 w A1 l1.length l1) (hc1 : l1.length ≤ c1) (h : v_Do.f a0 l1 = some (r1, r2, r3)) :
    Calls Tryz.prog 45 #[.string a0, .slice A1 l1.length c1] w fun e w' => e = .returned (.tuple #[.agg #[.int .i64 r1, .int .i64 r2], .int .i64 r3]) ∧ Below w.heap.size w w' := by
  have hcall : Calls Tryz.prog 45 #[.string a0, .slice A1 l1.length c1] w fun e w' => e = .returned (.tuple #[vv (vDo a0 (l1.map sv)).1, .int .i64 (vDo a0 (l1.map sv)).2]) ∧ Below w.heap.size w w' := by
    clear h
    have hC : ∀ w1, Below w.heap.size w w1 → Calls Tryz.prog 33 #[.slice A1 l1.length c1] w1 fun e w' => e = .returned (.int .i64 (if l1.any badV then 80 else 0)) ∧ Below w1.heap.size w1 w' := fun w1 h1 => v_Check.calls A1 c1 l1 _ w1 (Kd.C_below hr1 h1) hc1 rfl
    by_cases hb : l1.any badV = true
    · rw [if_pos hb] at hC
      have e : vDo a0 (l1.map sv) = ((0, 0), 80) := by unfold vDo; rw [any_sv, if_pos hb]
      rw [e]
      exact do_bad a0 c1 w A1 l1.length hC
    · rw [if_neg hb] at hC
      match l1, hr1, hb, hC with
      | [], hr1, hb, hC =>
        have e : vDo a0 (([] : List S25).map sv) = ((0, 0), 2) := rfl
        rw [e]
        exact do_len a0 c1 w A1 0 (by decide) (by decide) hC
      | [x], hr1, hb, hC =>
        obtain ⟨ad, rfl, p0, p1⟩ := cellz hr1 0 (by simp)
        have hv : isV (x.f0, x.f1) := by simpa [badV, sv] using hb
        cases ht : tab1.lookup a0 with
        | none =>
          have e : vDo a0 ([x].map sv) = ((0, 0), 2) := by unfold vDo; rw [any_sv, if_neg hb]; simp [ht]
          rw [e]
          exact do_one_none a0 c1 w ad x.f0 x.f1 ht p0 p1 hC
        | some F =>
          have e : vDo a0 ([x].map sv) = (F (x.f0, x.f1), 0) := by unfold vDo; rw [any_sv, if_neg hb]; simp [ht]
          rw [e]
          exact do_one a0 c1 w ad x.f0 x.f1 F ht _ _ rfl hv p0 p1 hC
      | [x, y], hr1, hb, hC =>
        obtain ⟨ad, rfl, p0, p1⟩ := cellz hr1 0 (by simp)
        obtain ⟨ad', e', q0, q1⟩ := cellz hr1 1 (by simp)
        injection e' with e'
        subst e'
        have hv : isV (x.f0, x.f1) ∧ isV (y.f0, y.f1) := by simpa [badV, sv] using hb
        cases ht : tab2.lookup a0 with
        | none =>
          have e : vDo a0 ([x, y].map sv) = ((0, 0), 2) := by unfold vDo; rw [any_sv, if_neg hb]; simp [ht]
          rw [e]
          exact do_two_none a0 c1 w ad x.f0 x.f1 y.f0 y.f1 ht p0 p1 q0 q1 hC
        | some F =>
          by_cases hn : x.f0 = 2 ∨ y.f0 = 2
          · have e : vDo a0 ([x, y].map sv) = ((2, 0), 0) := by unfold vDo; rw [any_sv, if_neg hb]; simp [ht, hn]
            rw [e]
            exact do_two_null a0 c1 w ad x.f0 x.f1 y.f0 y.f1 F ht hn p0 p1 q0 q1 hC
          · have e : vDo a0 ([x, y].map sv) = (F (x.f0, x.f1) (y.f0, y.f1), 0) := by unfold vDo; rw [any_sv, if_neg hb]; simp [ht, hn]
            rw [e]
            exact do_two a0 c1 w ad x.f0 x.f1 y.f0 y.f1 F ht _ _ hn rfl hv.1 hv.2 p0 p1 q0 q1 hC
      | x :: y :: z :: l, hr1, hb, hC =>
        have e : vDo a0 ((x :: y :: z :: l).map sv) = ((0, 0), 2) := by unfold vDo; rw [any_sv, if_neg hb]; rfl
        rw [e]
        exact do_len a0 c1 w A1 _ (by simp) (by simp) hC
  injection h with h
  injection h with h1 h
  injection h with h2 h3
  subst h1 h2 h3
  exact hcall
theorem below1 (w : World) (o : Obj) : Below w.heap.size w (w.alloc o) := (Below.refl _ _).alloc (Nat.le_refl _) _
theorem fresh_C1 (w : World) (a1 a2 : Int) : Kd.C k25 (w.alloc (.cells #[.int .i64 a1, .int .i64 a2] 25)) (some ⟨w.heap.size, 0, none⟩) 1 [⟨a1, a2⟩] := by
  have r := blk_new w (.cells #[.int .i64 a1, .int .i64 a2] 25)
  refine ⟨rfl, by have : maxLen = 9223372036854775807 := rfl; simp, fun _ => ⟨_, rfl, fun j p hp => ?_⟩⟩
  match j, hp with
  | 0, hp =>
    injection hp with hp
    subst hp
    exact ⟨[.int .i64 a1, .int .i64 a2], rfl, k25_mk _ _, fun i u hu => by
      match i, hu with
      | 0, hu => exact (blk_cell r 0).trans hu
      | 1, hu => exact (blk_cell r 1).trans hu
      | i + 2, hu => simp at hu⟩
  | j + 1, hp => simp at hp
theorem fresh_C2 (w : World) (a1 a2 b1 b2 : Int) : Kd.C k25 (w.alloc (.cells #[.int .i64 a1, .int .i64 a2, .int .i64 b1, .int .i64 b2] 25)) (some ⟨w.heap.size, 0, none⟩) 2 [⟨a1, a2⟩, ⟨b1, b2⟩] := by
  have r := blk_new w (.cells #[.int .i64 a1, .int .i64 a2, .int .i64 b1, .int .i64 b2] 25)
  refine ⟨rfl, by have : maxLen = 9223372036854775807 := rfl; simp, fun _ => ⟨_, rfl, fun j p hp => ?_⟩⟩
  match j, hp with
  | 0, hp =>
    injection hp with hp
    subst hp
    exact ⟨[.int .i64 a1, .int .i64 a2], rfl, k25_mk _ _, fun i u hu => by
      match i, hu with
      | 0, hu => exact (blk_cell r 0).trans hu
      | 1, hu => exact (blk_cell r 1).trans hu
      | i + 2, hu => simp at hu⟩
  | 1, hp =>
    injection hp with hp
    subst hp
    exact ⟨[.int .i64 b1, .int .i64 b2], rfl, k25_mk _ _, fun i u hu => by
      match i, hu with
      | 0, hu => exact (blk_cell r 2).trans hu
      | 1, hu => exact (blk_cell r 3).trans hu
      | i + 2, hu => simp at hu⟩
  | j + 2, hp => simp at hp
theorem check1_fresh (a1 a2 : Int) (w : World) : Calls Tryz.prog 33 #[.slice (some ⟨w.heap.size, 0, none⟩) 1 1] (w.alloc (.cells #[.int .i64 a1, .int .i64 a2] 25)) fun e w' => e = .returned (.int .i64 (if isV (a1, a2) then 0 else 80)) ∧ Below w.heap.size w w' := by
  refine (v_Check.calls _ 1 [⟨a1, a2⟩] _ _ (fresh_C1 w a1 a2) (Nat.le_refl _) rfl).mono fun e w' ⟨he, hb⟩ => ⟨?_, (below1 w _).trans (hb.mono (below1 w _).size)⟩
  rw [he]
  congr 2
  by_cases h : isV (a1, a2)
  · simp [badV, sv, h]
  · simp [badV, sv, h]
theorem do1_any (op : ByteArray) (a1 a2 : Int) (w : World) {x y z : Int} (h : vDo op [(a1, a2)] = ((x, y), z)) :
    Calls Tryz.prog 45 #[.string op, .slice (some ⟨w.heap.size, 0, none⟩) 1 1] (w.alloc (.cells #[.int .i64 a1, .int .i64 a2] 25)) fun e w' => e = .returned (.tuple #[.agg #[.int .i64 x, .int .i64 y], .int .i64 z]) ∧ Below w.heap.size w w' :=
  (v_Do.calls op _ 1 [⟨a1, a2⟩] _ _ _ _ (fresh_C1 w a1 a2) (Nat.le_refl _) (by show some ((vDo op [(a1, a2)]).1.1, (vDo op [(a1, a2)]).1.2, (vDo op [(a1, a2)]).2) = _; rw [h])).mono fun e w' ⟨he, hb⟩ => ⟨he, (below1 w _).trans (hb.mono (below1 w _).size)⟩
theorem do2_any (op : ByteArray) (a1 a2 b1 b2 : Int) (w : World) {x y z : Int} (h : vDo op [(a1, a2), (b1, b2)] = ((x, y), z)) :
    Calls Tryz.prog 45 #[.string op, .slice (some ⟨w.heap.size, 0, none⟩) 2 2] (w.alloc (.cells #[.int .i64 a1, .int .i64 a2, .int .i64 b1, .int .i64 b2] 25)) fun e w' => e = .returned (.tuple #[.agg #[.int .i64 x, .int .i64 y], .int .i64 z]) ∧ Below w.heap.size w w' :=
  (v_Do.calls op _ 2 [⟨a1, a2⟩, ⟨b1, b2⟩] _ _ _ _ (fresh_C2 w a1 a2 b1 b2) (Nat.le_refl _) (by show some ((vDo op [(a1, a2), (b1, b2)]).1.1, (vDo op [(a1, a2), (b1, b2)]).1.2, (vDo op [(a1, a2), (b1, b2)]).2) = _; rw [h])).mono fun e w' ⟨he, hb⟩ => ⟨he, (below1 w _).trans (hb.mono (below1 w _).size)⟩
@[local go_sem] theorem eql_nilLabel (w : World) (a : Option Addr) (n c : Nat) : (binOp .eql 35 (.slice a n c) (.slice none 0 0)).run Tryz.prog w = .ok (.bool a.isNone) w := Lib.run_eql_slice_nil w 35 62 a n c 0 0 Tryz.underlying35
theorem cloneLabel (A : Option Addr) (c : Nat) (l : List S62) (w : World) (hr : Kd.C k62 w A l.length l) (hl : l.length * 32 ≤ 140737488355328) :
    Calls Tryz.prog 105 #[.slice A l.length c] w fun e w' => ∃ v0_ : Value, e = .returned v0_ ∧ Kd.R k62 62 w' w.heap.size (fun _ => True) v0_ l ∧ Below w.heap.size w w' := by
  have hu := Tryz.underlying62
  have HR := Sd.mk hr
  have HL := Sd.mk hl
  have HB := Sd.mk (Below.refl w.heap.size w)
  clear hr hl
  cases A with
  | none =>
    have hnil : l = [] := by
      cases l with
      | nil => rfl
      | cons x l =>
        obtain ⟨ad, h, _⟩ := HR.out.2.2 (by simp)
        cases h
    subst hnil
    go_enter Tryz.func105, Tryz.ntmps105
    go_wp2
    go_ret
    exact ⟨_, rfl, Kd.R_nil _ _ _ _ _, Below.refl _ _⟩
  | some ad =>
    go_enter Tryz.func105, Tryz.ntmps105
    go_wp2_with (first | ((with_reducible refine gate_dst (N := 5) rfl ?_); refine Kd.R_lit k62 _ 62 ?hg (N := 5) ?hd (xs := ([] : List (S62))) (inner := []) (ok := fun _ => True) (okp := fun _ => True) ?hr ?hp (fun _ hk => hk) trivial (Below.refl _ _) (Nat.le_refl _) (by simp) ?_; (case hd => rfl); (case hg => rfl); (case hr => first | (go_simp; done) | (go_simp; rfl)); (case hp => exact (Reps.none _ _)); intro v191 w34 ho35 hb hg_ hnew_; clear hg_ hnew_; have n0_ := Sd.mk (Kd.R_lower ho35 (below_size HB.out)); have n1_ := Sd.mk (below_step HB.out hb); clear HB; have HO192 := n0_; have HB := n1_; clear n0_ n1_; clear hb ho35) | ((with_reducible refine gate_builtin (b := .append) (xs := #[.tmp 5, .tmp 6]) rfl ?_); at_builtin; refine Kd.R_append_rows k62 (w0 := w) w.heap.size rfl (.tmp 5) (.tmp 6) 35 62 (.agg #[(.string ⟨#[]⟩), (.string ⟨#[]⟩)]) 32 rfl Tryz.underlying35 info62 rfl (by decide) (by omega) v191 [] l _ _ _ (fun _ => True) (fun _ => False) rfl rfl ?aO ?aR (fun _ _ h => h) (fun _ h => h.elim) ?aF ?aB ?aS ?aL ?_; (case aR => exact (Kd.C_below HR.out HB.out)); (case aB => exact HB.out); (case aF => exact (fun _ _ => trivial)); (case aO => exact HO192.out); (case aS => exact (below_size HB.out)); (case aL => have := HL.out; simp; omega); intro v194 w36 ho hb hg hat; have n0_ := Sd.mk (hb); have n1_ := Sd.mk (ho); clear HB; clear HO192; have HB := n0_; have HO195 := n1_; clear n0_ n1_; clear ho hb hg hat))
    go_ret
    exact ⟨_, rfl, HO195.out, HB.out⟩
@[local go_sem] theorem eql_nilPoint (w : World) (a : Option Addr) (n c : Nat) : (binOp .eql 22 (.slice a n c) (.slice none 0 0)).run Tryz.prog w = .ok (.bool a.isNone) w := Lib.run_eql_slice_nil w 22 39 a n c 0 0 Tryz.underlying22
theorem clonePoint (A : Option Addr) (c : Nat) (l : List S39) (w : World) (hr : Kd.C k39 w A l.length l) (hl : l.length * 24 ≤ 140737488355328) :
    Calls Tryz.prog 35 #[.slice A l.length c] w fun e w' => ∃ v0_ : Value, e = .returned v0_ ∧ Kd.R k39 39 w' w.heap.size (fun _ => True) v0_ l ∧ Below w.heap.size w w' := by
  have hu := Tryz.underlying39
  have HR := Sd.mk hr
  have HL := Sd.mk hl
  have HB := Sd.mk (Below.refl w.heap.size w)
  clear hr hl
  cases A with
  | none =>
    have hnil : l = [] := by
      cases l with
      | nil => rfl
      | cons x l =>
        obtain ⟨ad, h, _⟩ := HR.out.2.2 (by simp)
        cases h
    subst hnil
    go_enter Tryz.func35, Tryz.ntmps35
    go_wp2
    go_ret
    exact ⟨_, rfl, Kd.R_nil _ _ _ _ _, Below.refl _ _⟩
  | some ad =>
    go_enter Tryz.func35, Tryz.ntmps35
    go_wp2_with (first | ((with_reducible refine gate_dst (N := 5) rfl ?_); refine Kd.R_lit k39 _ 39 ?hg (N := 5) ?hd (xs := ([] : List (S39))) (inner := []) (ok := fun _ => True) (okp := fun _ => True) ?hr ?hp (fun _ hk => hk) trivial (Below.refl _ _) (Nat.le_refl _) (by simp) ?_; (case hd => rfl); (case hg => rfl); (case hr => first | (go_simp; done) | (go_simp; rfl)); (case hp => exact (Reps.none _ _)); intro v191 w34 ho35 hb hg_ hnew_; clear hg_ hnew_; have n0_ := Sd.mk (Kd.R_lower ho35 (below_size HB.out)); have n1_ := Sd.mk (below_step HB.out hb); clear HB; have HO192 := n0_; have HB := n1_; clear n0_ n1_; clear hb ho35) | ((with_reducible refine gate_builtin (b := .append) (xs := #[.tmp 5, .tmp 6]) rfl ?_); at_builtin; refine Kd.R_append_rows k39 (w0 := w) w.heap.size rfl (.tmp 5) (.tmp 6) 22 39 (.agg #[(.int .i64 0), (.int .i64 0), (.int .i64 0)]) 24 rfl Tryz.underlying22 info39 rfl (by decide) (by omega) v191 [] l _ _ _ (fun _ => True) (fun _ => False) rfl rfl ?aO ?aR (fun _ _ h => h) (fun _ h => h.elim) ?aF ?aB ?aS ?aL ?_; (case aR => exact (Kd.C_below HR.out HB.out)); (case aB => exact HB.out); (case aF => exact (fun _ _ => trivial)); (case aO => exact HO192.out); (case aS => exact (below_size HB.out)); (case aL => have := HL.out; simp; omega); intro v194 w36 ho hb hg hat; have n0_ := Sd.mk (hb); have n1_ := Sd.mk (ho); clear HB; clear HO192; have HB := n0_; have HO195 := n1_; clear n0_ n1_; clear ho hb hg hat))
    go_ret
    exact ⟨_, rfl, HO195.out, HB.out⟩
abbrev Pt := S39
def oddP (x : Pt) : Bool := decide (x.f1.f0 = 2 ∨ x.f1.f0 = 3)
theorem odd_is (k n : Int) : s_odd.f k n = some (decide (k = 2 ∨ k = 3)) := by
  unfold s_odd.f
  by_cases h : k = 2
  · rw [if_pos h, decide_eq_true (.inl h)]
  · rw [if_neg h]
    congr 1
    by_cases h3 : k = 3
    · rw [decide_eq_true (.inr h3)]; simpa using h3
    · rw [decide_eq_false (fun e => e.elim h h3)]; simpa using h3
theorem odd2_calls (x : Pt) (w : World) : Calls Tryz.prog 36 #[.agg #[.int .i64 x.f0, .int .i64 x.f1.f0, .int .i64 x.f1.f1]] w fun e w' => e = .returned (.bool (oddP x)) ∧ Below w.heap.size w w' := by
  have hb := below1 w (.cells #[.int .i64 x.f0, .int .i64 x.f1.f0, .int .i64 x.f1.f1] 39)
  have HC := Sd.mk (s_odd.calls x.f1.f0 x.f1.f1 _ (w.alloc (.cells #[.int .i64 x.f0, .int .i64 x.f1.f0, .int .i64 x.f1.f1] 39)) (odd_is _ _))
  have HB := Sd.mk hb
  unfold oddP
  generalize decide (x.f1.f0 = 2 ∨ x.f1.f0 = 3) = r at HC ⊢
  clear hb
  go_enter Tryz.func36, Tryz.ntmps36
  go_wp2_with (go_at_call 37; refine HC.out.mono ?_; rintro e w1 ⟨rfl, hb1⟩; have HE := Sd.mk (HB.out.trans (hb1.mono HB.out.size)); clear hb1)
  go_ret
  exact ⟨by first | rfl | simp, HE.out⟩
theorem odd3_calls (x : Pt) (w : World) : Calls Tryz.prog 41 #[.agg #[.int .i64 x.f0, .int .i64 x.f1.f0, .int .i64 x.f1.f1]] w fun e w' => e = .returned (.bool (oddP x)) ∧ Below w.heap.size w w' := by
  have hb := below1 w (.cells #[.int .i64 x.f0, .int .i64 x.f1.f0, .int .i64 x.f1.f1] 39)
  have HC := Sd.mk (s_odd.calls x.f1.f0 x.f1.f1 _ (w.alloc (.cells #[.int .i64 x.f0, .int .i64 x.f1.f0, .int .i64 x.f1.f1] 39)) (odd_is _ _))
  have HB := Sd.mk hb
  unfold oddP
  generalize decide (x.f1.f0 = 2 ∨ x.f1.f0 = 3) = r at HC ⊢
  clear hb
  go_enter Tryz.func41, Tryz.ntmps41
  go_wp2_with (go_at_call 37; refine HC.out.mono ?_; rintro e w1 ⟨rfl, hb1⟩; have HE := Sd.mk (HB.out.trans (hb1.mono HB.out.size)); clear hb1)
  go_ret
  exact ⟨by first | rfl | simp, HE.out⟩
theorem addP_own (g k : Nat) : (⟨g, 0, none⟩ : Addr).add k = ⟨g, k, none⟩ := by
  unfold Addr.add
  split
  · rename_i h; subst h; rfl
  · simp
theorem ownP_at {w : World} {base : Nat} {ok : Nat → Prop} {g n c : Nat} {xs : List Pt} (h : Kd.R k39 39 w base ok (.slice (some ⟨g, 0, none⟩) n c) xs) (j : Nat) (hj : j < xs.length) :
    w.cell? ⟨g, j * 3, none⟩ = some (.int .i64 (rd_T39 xs j).f0) ∧ w.cell? ⟨g, j * 3 + 1, none⟩ = some (.int .i64 (rd_T39 xs j).f1.f0) ∧ w.cell? ⟨g, j * 3 + 2, none⟩ = some (.int .i64 (rd_T39 xs j).f1.f1) := by
  obtain ⟨ad0, e0, p⟩ := at_T39 (Kd.R_reads' h).2.2 (j : Int) (by omega) (by omega)
  injection e0 with e0
  subst e0
  rw [Int.toNat_natCast, addP_own] at p
  exact p
theorem kP_flat {w w' : World} {b b' : Nat} {ok ok' : Nat → Prop} {x : Pt} {cs : List Value} (h : k39.M w b ok x cs) : k39.M w' b' ok' x cs := by
  obtain rfl := k39_openM h
  exact k39_mkM _ _ _ _
def zPt : Array Value := #[.int .i64 0, .int .i64 0, .int .i64 0]
theorem zPt_one (m : Nat) (h : m < 3) : (zPt[m]!).oneCell' = true := by
  match m, h with
  | 0, _ => rfl
  | 1, _ => rfl
  | 2, _ => rfl
/-- What a cleared tail leaves: the elements ahead of it. -/
theorem clearP_own {w0 W : World} {g n c : Nat} {xs : List Pt} (h : Kd.R k39 39 W w0.heap.size (fun _ => True) (.slice (some ⟨g, 0, none⟩) n c) xs) (hB : Below w0.heap.size w0 W) (i : Nat) (hi : i < n) :
    ∃ W1, (∀ ty, (Builtin.clear_ #[22] ty #[.slice (some ⟨g, i * 3, none⟩) (n - i) (c - i)]).run Tryz.prog W = .ok (.tuple #[]) W1) ∧ Kd.R k39 39 W1 w0.heap.size (fun _ => True) (.slice (some ⟨g, 0, none⟩) i c) (xs.take i) ∧ Below w0.heap.size w0 W1 := by
  have hn : n = xs.length := (Kd.R_reads' h).1
  have hnc : n ≤ c := (Kd.R_reads' h).2.1
  have h' := Kd.R_take h (m := i) (by omega)
  obtain ⟨h0, inner, hown, hr⟩ := h'
  rcases hown.2 with ⟨hv, _⟩ | ⟨g', cap', cur, hv, hb, hh, hic, hcm, hcs, htk⟩
  · cases hv
  injection hv with ha h2 h3
  injection ha with ha
  injection ha with hg'
  subst hg'; subst h3
  have hk3 : k39.sz = 3 := rfl
  rw [hk3] at hcs htk
  obtain ⟨zs, hzs⟩ : ∃ zs, zs = (Builtin.zeroCells zPt (n - i)).toList := ⟨_, rfl⟩
  have zl : zs.length = (n - i) * 3 := by rw [hzs]; simp [Builtin.zeroCells, zPt]
  have z1 : ∀ u ∈ zs, u.oneCell' = true := by
    intro u hu
    rw [hzs] at hu
    simp only [Builtin.zeroCells, Array.toList_map, List.mem_map] at hu
    obtain ⟨j, _, rfl⟩ := hu
    exact zPt_one _ (Nat.mod_lt _ (by decide))
  have hfit : i * 3 + zs.length ≤ cur.size := by rw [zl, hcs]; omega
  have hst := run_storeCells_cells (P := Tryz.prog) g (i * 3) zs 0 W (fun j hj => by
    rw [cell_of_row W g _ cur 39 (0, 0) hh]; simp; omega) (fun j _ => blk_frozen hh _) z1
  simp only [Nat.add_zero] at hst
  obtain ⟨cur', hh', hcs', hl'⟩ := setCells_row (e := 39) zs (i * 3) W cur hh hfit
  refine ⟨W.setCells g (i * 3) zs, fun ty => ?_, ⟨h0, inner, ⟨hown.1, .inr ⟨g, c, cur', by rw [← h2], hb, hh', hic, hcm, by rw [hcs', hcs, hk3], ?_⟩⟩, hr.imp_ (fun _ _ hp => kP_flat hp)⟩, ?_⟩
  · obtain ⟨m, hm⟩ : ∃ m, n - i = m + 1 := ⟨n - i - 1, by omega⟩
    rw [hm] at hzs
    rw [hm]
    have hzc : (Value.agg zPt).cells = zPt := by simp [Value.cells, zPt]
    have hz : (zeroValue 39).run Tryz.prog W = .ok (.agg zPt) W := Tryz.zeroValue39 W
    rw [hzs] at hst ⊢
    simp [Builtin.clear_, run_underlying Tryz.underlying22, hz, hzc, hst]
  · rw [hk3, ← h2, hl', List.append_assoc, List.take_append_of_le_length (by rw [List.length_take, Array.length_toList, hcs]; omega), List.take_take, Nat.min_self, ← htk, ← h2]
  · obtain ⟨s1, s2, s3, s4⟩ := setCells_same g zs (i * 3) W
    exact hB.trans ⟨s1, s2, s3, by rw [s4]; exact Nat.le_refl _, fun k hk => setCells_far zs _ k (by omega)⟩
theorem info39s : (Tryz.prog.info? 39).map (·.size) = some 3 := by kernel_rfl
abbrev ptL (x : Pt) : List Value := [.int .i64 x.f0, .int .i64 x.f1.f0, .int .i64 x.f1.f1]
/-- xs[i] = x, in a row of the call's own. -/
theorem store_pt {ops : Array Oper} {rest : List Oper} {o : Oper} {a : Act} {Q : Exit → Act → World → Prop} {W : World} {B : Nat} {w0 : World} (x' y' : Operand) (hN : o.dst = none) (hgd : o.guard = none) (ho : o.op = .store 39 x' y') {g n c o' : Nat} (i : Nat) (xs : List Pt) (x : Pt)
    (haddr : a.eval x' = .pointer (some ⟨g, o', none⟩)) (hoff : o' = i * 3) (hx : a.eval y' = .agg #[.int .i64 x.f0, .int .i64 x.f1.f0, .int .i64 x.f1.f1])
    (HO : Kd.R k39 39 W B (fun _ => True) (.slice (some ⟨g, 0, none⟩) n c) xs) (hi : i < xs.length) (HB : Below B w0 W)
    (h : ∀ w1, Kd.R k39 39 w1 B (fun _ => True) (.slice (some ⟨g, 0, none⟩) n c) (xs.set i x) → Below B w0 w1 → W.grownBy w1 (some g) → wpList Tryz.prog ops Q rest a w1) : wpList Tryz.prog ops Q (o :: rest) a W := by
  obtain ⟨o0, o1, o2⟩ := ownP_at HO i hi
  have hn := (Kd.R_reads' HO).1
  refine Kd.R_store k39 (w0 := w0) B hN hgd 39 x' y' ho 39 (i : Int) 0 xs x (.agg #[.int .i64 x.f0, .int .i64 x.f1.f0, .int .i64 x.f1.f1]) (ptL x) (ptL (rd_T39 xs i)) (fun _ => True) (fun _ => False) haddr (by rw [hoff]; rfl) hx (by simp [Value.cells]) info39s ?_ HO (by omega) (by omega) rfl ?_ (Nat.le_refl 3) (k39_mkM _ _ _ _) (fun _ hk => hk.elim) HB (by rw [Int.toNat_natCast]; exact h)
  · intro q hq
    simp only [List.mem_cons, List.not_mem_nil, or_false] at hq
    rcases hq with rfl | rfl | rfl <;> rfl
  · intro m u hu
    rw [Int.toNat_natCast]
    match m, hu with
    | 0, hu => injection hu with hu; subst hu; exact o0
    | 1, hu => injection hu with hu; subst hu; exact o1
    | 2, hu => injection hu with hu; subst hu; exact o2
    | m + 3, hu => simp at hu
theorem keep_step {p : Pt → Bool} {l xs : List Pt} {i j : Nat} (hl : xs.length = l.length) (ht : xs.take i = (l.take j).filter p) (hd : xs.drop j = l.drop j) (hij : i < j) (hj : j < l.length) (hp : p l[j] = true) :
    (xs.set i l[j]).length = l.length ∧ (xs.set i l[j]).take (i + 1) = (l.take (j + 1)).filter p ∧ (xs.set i l[j]).drop (j + 1) = l.drop (j + 1) := by
  refine ⟨by rw [List.length_set, hl], ?_, ?_⟩
  · rw [List.take_add_one, List.take_set_of_le (Nat.le_refl _), ht, List.getElem?_set_self (by omega), List.take_add_one (i := j), List.getElem?_eq_getElem hj, List.filter_append]
    simp [hp]
  · rw [List.drop_set_of_lt (by omega), ← List.drop_drop, hd, List.drop_drop]
theorem drop_step {p : Pt → Bool} {l xs : List Pt} {i j : Nat} (ht : xs.take i = (l.take j).filter p) (hd : xs.drop j = l.drop j) (hj : j < l.length) (hp : ¬ p l[j] = true) :
    xs.take i = (l.take (j + 1)).filter p ∧ xs.drop (j + 1) = l.drop (j + 1) := by
  refine ⟨?_, ?_⟩
  · rw [ht, List.take_add_one (i := j), List.getElem?_eq_getElem hj, List.filter_append]
    simp [hp]
  · rw [← List.drop_drop, hd, List.drop_drop]
theorem idxP_at (q : Pt → Bool) : ∀ (l : List Pt) (i : Nat), (Go.Proofs.YtcmiehddjgfjaaaGreat.I.idxP q l i = -1 ∧ l.filter (fun x => !q x) = l) ∨ ∃ k : Nat, Go.Proofs.YtcmiehddjgfjaaaGreat.I.idxP q l i = ((i + k : Nat) : Int) ∧ k < l.length ∧ (l.take (k + 1)).filter (fun x => !q x) = l.take k
  | [], i => .inl ⟨rfl, rfl⟩
  | x :: l, i => by
    rw [Go.Proofs.YtcmiehddjgfjaaaGreat.I.idxP]
    by_cases h : q x = true
    · rw [if_pos h]
      refine .inr ⟨0, rfl, by simp, ?_⟩
      rw [List.take_succ_cons, List.filter_cons_of_neg (by rw [h]; simp)]
      simp
    · rw [if_neg h]
      have hn : (!q x) = true := by simpa using h
      rcases idxP_at q l (i + 1) with ⟨h1, h2⟩ | ⟨k, h1, h2, h3⟩
      · exact .inl ⟨h1, by rw [List.filter_cons_of_pos (p := fun x => !q x) hn, h2]⟩
      · refine .inr ⟨k + 1, by rw [h1]; congr 1; omega, by simp; omega, ?_⟩
        rw [List.take_succ_cons, List.filter_cons_of_pos (p := fun x => !q x) hn, h3, List.take_succ_cons]
theorem deleteP_calls (l : List Pt) (v : Value) (w0 w : World) (hv : Kd.R k39 39 w w0.heap.size (fun _ => True) v l) (hb : Below w0.heap.size w0 w) :
    Calls Tryz.prog 34 #[v, .func (.func 36) #[] #[]] w fun e w' => ∃ v0_ : Value, e = .returned v0_ ∧ Kd.R k39 39 w' w0.heap.size (fun _ => True) v0_ (l.filter fun x => !oddP x) ∧ Below w0.heap.size w0 w' := by
  have eg : ∀ args w, (callFunc 36 args).run Tryz.prog w = .ok (.enter 36 args) w := enters_of Tryz.func36 (by kernel_rfl) rfl
  have HEG := Sd.mk eg
  clear eg
  have hu39 := Tryz.underlying39
  have HV := Sd.mk hv
  have HB := Sd.mk hb
  obtain ⟨A, c, rfl, hlc, hC⟩ := Kd.R_reads hv
  have HR := Sd.mk hC
  have hm : l.length ≤ 9223372036854775807 := Kd.C_max hC
  clear hv hb hC
  go_enter Tryz.func34, Tryz.ntmps34
  go_wp2_with fail
  refine (indexPoint oddP 36 #[] HEG.out A c l _ HR.out (fun x hx w1 cs _ hK => by obtain rfl := k39_open hK; exact odd2_calls x w1)).mono ?_
  rintro e w1 ⟨rfl, hb1⟩
  have HV1 := Sd.mk (Kd.R_below HV.out hb1)
  have HB1 := Sd.mk (below_step HB.out hb1)
  clear hb1 HV HB HR
  rcases idxP_at oddP l 0 with ⟨hi, hf⟩ | ⟨k, hi, hk, hf⟩
  · rw [hi]
    go_wp2
    go_ret
    exact ⟨_, rfl, by rw [hf]; exact HV1.out, HB1.out⟩
  · rw [hi, Nat.zero_add]
    have HF := Sd.mk hf
    have dn : ((k : Int) == -1) = false := by simp
    clear hi hf
    obtain ⟨ad1, c1, he⟩ := Kd.R_slice1 HV1.out (by omega)
    injection he with he1 he2 he3
    subst he1; subst he3
    obtain ⟨g, rfl⟩ := Kd.R_head HV1.out
    go_wp2_with fail
    go_loopg [5, 6, 7] (l.length - (k + 1)) (fun kq v5 v6 v7 w' => ∃ (i j : Nat) (xs : List Pt), i < j ∧ j ≤ l.length ∧ v5 = .int .i64 i ∧ v6 = .int .i64 j ∧ Sd (kq = l.length - j) ∧ Sd (xs.length = l.length ∧ xs.take i = (l.take j).filter (fun x => !oddP x) ∧ xs.drop j = l.drop j) ∧ Sd (Kd.R k39 39 w' w0.heap.size (fun _ => True) (.slice (some ⟨g, 0, none⟩) l.length c) xs) ∧ Sd (Below w0.heap.size w0 w'))
    case atStart => exact ⟨k, k + 1, l, by omega, by omega, rfl, by go_num, ⟨rfl⟩, ⟨rfl, HF.out.symm, rfl⟩, HV1, HB1⟩
    case round =>
      obtain ⟨i, j, xs, hij, hj, rfl, rfl, HK, HX, HO, HB⟩ := hrel
      by_cases hlt : j < l.length
      · have hjx : j < xs.length := by rw [HX.out.1]; exact hlt
        obtain ⟨p0, p1, p2⟩ := ownP_at HO.out j hjx
        go_wp2_with fail
        have hj1 : rd_T39 xs j = l[j] := by
          have e : xs[j] = l[j] := by
            have h1 := List.drop_eq_getElem_cons hjx
            have h2 := List.drop_eq_getElem_cons hlt
            rw [HX.out.2.2, h2] at h1
            injection h1 with h1
            exact h1.symm
          rw [← e]; simp [rd_T39, List.getD_eq_getElem?_getD, List.getElem?_eq_getElem hjx]
        have hnew : ∀ (o : Array Value) (m : Nat), (wr.alloc (.cells o 39)).cell? ⟨wr.heap.size, m, none⟩ = o[m]? := fun o m => cell_of_row _ _ _ o 39 (0, 0) (blk_new wr _)
        refine (odd2_calls (rd_T39 xs j) _).mono ?_
        rintro e w2 ⟨rfl, hb2⟩
        have q0 := pw_cell_below hb2 (hnew _ 0)
        have q1 := pw_cell_below hb2 (hnew _ 1)
        have q2 := pw_cell_below hb2 (hnew _ 2)
        have HO2 := Sd.mk (Kd.R_below (Kd.R_alloc HO.out _) hb2)
        have HB2 := Sd.mk (below_step (bal HB.out _) hb2)
        obtain ⟨B, hBe⟩ : ∃ B, B = wr.heap.size := ⟨_, rfl⟩
        rw [← hBe] at q0 q1 q2 ⊢
        clear hnew hb2 p0 p1 p2 HO HB hBe
        have HJ := Sd.mk hj1
        clear hj1
        have HD := Sd.mk (rfl : oddP (rd_T39 xs j) = oddP (rd_T39 xs j))
        generalize hd : oddP (rd_T39 xs j) = b at ⊢
        cases b with
        | false =>
          have hil : i < xs.length := by rw [HX.out.1]; omega
          go_wp2_with (first | ((with_reducible refine gate_ (.store 39 (.tmp 33) (.tmp 32)) rfl ?_); refine store_pt (w0 := w0) (.tmp 33) (.tmp 32) rfl rfl rfl i xs (rd_T39 xs j) rfl rfl rfl HO2.out hil HB2.out ?_; intro w3 ho hb hg_; have n0_ := Sd.mk hb; have n1_ := Sd.mk ho; clear HB2 HO2; have HB := n0_; have HO := n1_; clear n0_ n1_ hb ho hg_))
          have hp : (!oddP l[j]) = true := by rw [← HJ.out, hd]; rfl
          have HX2 := Sd.mk (show (xs.set i (rd_T39 xs j)).length = l.length ∧ (xs.set i (rd_T39 xs j)).take (i + 1) = (l.take (j + 1)).filter (fun x => !oddP x) ∧ (xs.set i (rd_T39 xs j)).drop (j + 1) = l.drop (j + 1) from by
            rw [HJ.out]; exact keep_step HX.out.1 HX.out.2.1 HX.out.2.2 hij hlt hp)
          go_roundg (l.length - (j + 1))
          case measure => have := HK.out; omega
          case rel => exact ⟨i + 1, j + 1, xs.set i (rd_T39 xs j), by omega, by omega, by go_num, by go_num, ⟨rfl⟩, HX2, HO, HB⟩
        | true =>
          have hp : ¬ (!oddP l[j]) = true := by rw [← HJ.out, hd]; simp
          have HX2 := Sd.mk (show xs.length = l.length ∧ xs.take i = (l.take (j + 1)).filter (fun x => !oddP x) ∧ xs.drop (j + 1) = l.drop (j + 1) from ⟨HX.out.1, drop_step HX.out.2.1 HX.out.2.2 hlt hp⟩)
          clear hp
          go_wp2
          go_roundg (l.length - (j + 1))
          case measure => have := HK.out; omega
          case rel => exact ⟨i, j + 1, xs, by omega, by omega, by go_num, by go_num, ⟨rfl⟩, HX2, HO2, HB2⟩
      · have hjl : j = l.length := by omega
        subst hjl
        obtain ⟨W1, hW1, HO1, HB1⟩ := clearP_own HO.out HB.out i hij
        have HF1 := Sd.mk (show xs.take i = l.filter (fun x => !oddP x) from by rw [HX.out.2.1, List.take_length])
        have HO2 := Sd.mk HO1
        have HB2 := Sd.mk HB1
        clear HO1 HB1 HX HO HB
        go_wp2
        go_ret
        exact ⟨_, rfl, by rw [← HF1.out]; exact HO2.out, HB2.out⟩
end Go.Proofs.YtcmiehddjgfjaaaGreat.A
namespace Go.Proofs.YtcmiehddjgfjaaaGreat.St
open Go.Proofs Go.Proofs.YtcmiehddjgfjaaaGreat.Stable
section
variable {α : Type} {c : α → α → Int}
theorem merge_perm (lt : α → α → Bool) : ∀ u v : List α, (merge lt u v).Perm (u ++ v)
  | [], v => by rw [merge, List.nil_append]
  | x :: u, [] => by rw [merge, List.append_nil]
  | x :: u, y :: v => by
    rw [merge]
    split
    · exact ((merge_perm lt (x :: u) v).cons y).trans (List.perm_middle.symm)
    · exact (merge_perm lt u (y :: v)).cons x
termination_by u v => u.length + v.length
theorem foldl_perm (lt : α → α → Bool) : ∀ l s : List α, (l.foldl (fun s x => merge lt s [x]) s).Perm (s ++ l)
  | [], s => by rw [List.foldl_nil, List.append_nil]
  | x :: l, s => by
    rw [List.foldl_cons]
    refine (foldl_perm lt l _).trans ?_
    have := (merge_perm lt s [x]).append_right l
    rwa [List.append_assoc] at this
theorem isort_perm (lt : α → α → Bool) (l : List α) : (isort lt l).Perm l := foldl_perm lt l []
/-- No two are alike. -/
def Apart (c : α → α → Int) (l : List α) : Prop := l.Pairwise fun a b => c a b ≠ 0
/-- Each is ahead of all behind it. -/
def Strict (c : α → α → Int) (l : List α) : Prop := l.Pairwise fun a b => c a b < 0
theorem Strict.apart {l : List α} (h : Strict c l) : Apart c l := h.imp (fun h => by omega)
theorem Apart.perm (h : Cmp3 c) {l l' : List α} (p : l.Perm l') (ha : Apart c l) : Apart c l' :=
  (p.pairwise_iff (fun {a b} hn e => hn (h.zero.1 e))).1 ha
theorem Strict.sorted {l : List α} (h : Cmp3 c) (hs : Strict c l) : Sorted (ltOf c) l := hs.imp (fun {a b} hl => decide_eq_false (by have := h.flip a b; omega))
/-- Are two neighbours alike? -/
def adjEq (c : α → α → Int) : List α → Bool
  | x :: y :: l => decide (c x y = 0) || adjEq c (y :: l)
  | _ => false
theorem adj_sorted (h : Cmp3 c) : ∀ {l : List α}, Sorted (ltOf c) l → adjEq c l = false → Strict c l
  | [], _, _ => List.Pairwise.nil
  | [x], _, _ => List.pairwise_singleton _ _
  | x :: y :: l, hs, ha => by
    rw [adjEq, Bool.or_eq_false_iff] at ha
    obtain ⟨h1, h2⟩ := List.pairwise_cons.1 hs
    have ih := adj_sorted h h2 ha.2
    have hxy : c x y < 0 := by
      have a := of_decide_eq_false (h1 y List.mem_cons_self)
      have b := of_decide_eq_false ha.1
      have := h.flip y x
      omega
    refine List.pairwise_cons.2 ⟨fun z hz => ?_, ih⟩
    rcases List.mem_cons.1 hz with rfl | hz
    · exact hxy
    · have := (List.pairwise_cons.1 ih).1 z hz
      exact h.lt_tr hxy (by omega)
theorem adj_apart : ∀ {l : List α}, Apart c l → adjEq c l = false
  | [], _ => rfl
  | [x], _ => rfl
  | x :: y :: l, ha => by
    obtain ⟨h1, h2⟩ := List.pairwise_cons.1 ha
    rw [adjEq, adj_apart h2, Bool.or_false]
    exact decide_eq_false (h1 y List.mem_cons_self)
theorem adj_isort (h : Cmp3 c) (l : List α) : adjEq c (isort (ltOf c) l) = false ↔ Apart c l := by
  constructor
  · intro ha
    exact Apart.perm h (isort_perm _ l) (adj_sorted h (isort_sorted h.ord l) ha).apart
  · intro ha
    exact adj_apart (Apart.perm h (isort_perm _ l).symm ha)
theorem isort_strict (h : Cmp3 c) {l : List α} (ha : Apart c l) : Strict c (isort (ltOf c) l) := adj_sorted h (isort_sorted h.ord l) ((adj_isort h l).2 ha)
/-- What is sorted stays so. -/
theorem isort_id (h : Cmp3 c) : ∀ {l : List α}, Sorted (ltOf c) l → isort (ltOf c) l = l := by
  intro l
  have : ∀ (l s : List α), Sorted (ltOf c) (s ++ l) → l.foldl (fun s x => merge (ltOf c) s [x]) s = s ++ l := by
    intro l
    induction l with
    | nil => intro s _; simp
    | cons x l ih =>
      intro s hs
      have h1 : merge (ltOf c) s [x] = s ++ [x] := by
        have := merge_one (lt := ltOf c) s [] x (fun e he => (List.pairwise_append.1 hs).2.2 e he x List.mem_cons_self) (fun e he => by cases he)
        rwa [List.append_nil] at this
      rw [List.foldl_cons, h1, ih (s ++ [x]) (by rwa [List.append_assoc]), List.append_assoc]; rfl
  intro hs
  exact this l [] hs
/-- Strictly sorted lists of the same members are the same. -/
theorem strict_eq (h : Cmp3 c) : ∀ {l l' : List α}, Strict c l → Strict c l' → l.Perm l' → l = l'
  | [], l', _, _, p => (List.Perm.nil_eq p)
  | x :: l, [], _, _, p => by have := p.length_eq; simp at this
  | x :: l, y :: l', hs, hs', p => by
    obtain ⟨h1, h2⟩ := List.pairwise_cons.1 hs
    obtain ⟨h1', h2'⟩ := List.pairwise_cons.1 hs'
    have hx : x ∈ y :: l' := p.mem_iff.1 List.mem_cons_self
    have hy : y ∈ x :: l := p.mem_iff.2 List.mem_cons_self
    have hxy : x = y := by
      rcases List.mem_cons.1 hx with e | hx
      · exact e
      · rcases List.mem_cons.1 hy with e | hy
        · exact e.symm
        · have a := h1 y hy
          have b := h1' x hx
          have := h.flip x y
          omega
    subst hxy
    rw [strict_eq h h2 h2' (List.Perm.cons_inv p)]
theorem isort_any_order (h : Cmp3 c) {l l' : List α} (p : l.Perm l') (ha : Apart c l) : isort (ltOf c) l = isort (ltOf c) l' :=
  strict_eq h (isort_strict h ha) (isort_strict h (Apart.perm h p ha)) ((isort_perm _ l).trans (p.trans (isort_perm _ l').symm))
/-- One more in a sorted list; none where it is there already. -/
def ins (c : α → α → Int) : List α → α → Option (List α)
  | [], x => some [x]
  | y :: s, x => if c y x < 0 then (ins c s x).map (y :: ·) else if c y x = 0 then none else some (x :: y :: s)
theorem ins_none (h : Cmp3 c) : ∀ {s : List α} {x : α}, Strict c s → (∃ y ∈ s, c y x = 0) → ins c s x = none
  | [], x, _, hn => by obtain ⟨y, hy, _⟩ := hn; cases hy
  | y :: s, x, hs, hn => by
    obtain ⟨h1, h2⟩ := List.pairwise_cons.1 hs
    obtain ⟨z, hz, e⟩ := hn
    rw [ins]
    rcases List.mem_cons.1 hz with rfl | hz
    · rw [if_neg (by omega), if_pos e]
    · have hyz := h1 z hz
      have hyx : c y x < 0 := h.lt_tr hyz (by omega)
      rw [if_pos hyx, ins_none h h2 ⟨z, hz, e⟩]; rfl
end
section
variable {α : Type} {c : α → α → Int}
theorem merge_last_keep (lt : α → α → Bool) (x : α) : ∀ {u : List α} {m : α}, u.getLast? = some m → lt x m = true → (merge lt u [x]).getLast? = some m
  | [], m, h, _ => by cases h
  | [a], m, h, hl => by
    have : a = m := by simpa using h
    subst this
    rw [merge, if_pos hl, merge_nil]; rfl
  | a :: b :: u, m, h, hl => by
    have h' : (b :: u).getLast? = some m := by rw [List.getLast?_cons_cons] at h; exact h
    rw [merge]
    split
    · rw [merge_nil, List.getLast?_cons_cons, List.getLast?_cons_cons]; exact h'
    · have ih := merge_last_keep lt x h' hl
      have hne : merge lt (b :: u) [x] ≠ [] := by
        intro e
        have := merge_length lt (b :: u) [x]
        rw [e] at this
        simp at this
      rw [List.getLast?_cons, ih]; rfl
theorem merge_last (h : Cmp3 c) {s : List α} (hs : Sorted (ltOf c) s) {m : α} (hm : s.getLast? = some m) (x : α) : (merge (ltOf c) s [x]).getLast? = some (if c m x ≤ 0 then x else m) := by
  by_cases e : c m x ≤ 0
  · rw [if_pos e]
    have hall : ∀ a ∈ s, ltOf c x a = false := by
      intro a ha
      have hne : s ≠ [] := by rintro rfl; cases ha
      obtain ⟨i, hi, rfl⟩ := List.getElem_of_mem ha
      have hml : s[s.length - 1]'(by omega) = m := by
        rw [List.getLast?_eq_getElem?] at hm
        rw [List.getElem?_eq_getElem (by omega)] at hm
        exact Option.some.inj hm
      have ham : c s[i] m ≤ 0 := by
        by_cases hij : i = s.length - 1
        · subst hij
          rw [hml, h.self]; omega
        · have := hs.getElem (i := i) (j := s.length - 1) (by omega) (by omega)
          rw [hml] at this
          have h1 : ¬ c m s[i] < 0 := of_decide_eq_false this
          have := h.flip m s[i]
          have := h.flip s[i] m
          omega
      have h2 := h.tr _ _ _ ham e
      exact decide_eq_false (by have := h.flip x s[i]; omega)
    have := merge_one (lt := ltOf c) s [] x hall (fun e he => by cases he)
    rw [List.append_nil] at this
    rw [this]
    simp
  · rw [if_neg e]
    exact merge_last_keep _ x hm (decide_eq_true (by have := h.flip x m; omega))
def lastOf (c : α → α → Int) (p : α) (l : List α) : α := l.foldl (fun k x => if c k x ≤ 0 then x else k) p
/-- The last one of those sorted is the last one of the greatest. -/
theorem last_isort (h : Cmp3 c) (p : α) (l : List α) : (isort (ltOf c) (p :: l)).getLast? = some (lastOf c p l) := by
  have key : ∀ (l s : List α) (m : α), Sorted (ltOf c) s → s.getLast? = some m → (l.foldl (fun s x => merge (ltOf c) s [x]) s).getLast? = some (lastOf c m l) := by
    intro l
    induction l with
    | nil => intro s m _ hm; exact hm
    | cons x l ih =>
      intro s m hs hm
      rw [List.foldl_cons, lastOf, List.foldl_cons]
      exact ih _ _ (merge_sorted h.ord hs (List.pairwise_singleton _ _)) (merge_last h hs hm x)
  have := key l [p] p (List.pairwise_singleton _ _) rfl
  rw [isort, List.foldl_cons, nil_merge]
  exact this
end
end Go.Proofs.YtcmiehddjgfjaaaGreat.St
namespace Go.Proofs.YtcmiehddjgfjaaaGreat.A
open Go.RowKit Go.Proofs.YtcmiehddjgfjaaaGreatW.PrintWords Go.Proofs.YtcmiehddjgfjaaaGreatW.PrintLast Go.Proofs.YtcmiehddjgfjaaaGreatW.PrintMore Go.Proofs.YtcmiehddjgfjaaaGreat.St Go.Proofs.YtcmiehddjgfjaaaGreat.Stable
def cmpAt (x y : Pt) : Int := cmpZ x.f0 y.f0
theorem cmpAt3 : Cmp3 cmpAt := cmpZ3.map S39.f0
def rwP (x : Pt) : ColP.Rw := (x.f0, x.f1.f0, x.f1.f1)
theorem rdP_at {xs : List Pt} {i : Nat} (h : i < xs.length) : rd_T39 xs (i : Int) = xs[i] := by
  unfold rd_T39
  rw [Int.toNat_natCast, List.getD_eq_getElem?_getD, List.getElem?_eq_getElem h]; rfl
theorem flatP_seg (zs : List ColP.Rw) (j : Nat) (hj : j < zs.length) : ((ColP.flat zs).drop (j * 3)).take 3 = ColP.cl zs[j] := by
  induction zs generalizing j with
  | nil => simp at hj
  | cons z zs ih =>
    cases j with
    | zero => simp [ColP.flat, ColP.cl]
    | succ j =>
      have := ih j (by simpa using hj)
      rw [List.getElem_cons_succ, ← this]
      have e : (j + 1) * 3 = (ColP.cl z).length + j * 3 := by show (j + 1) * 3 = 3 + j * 3; omega
      rw [e, ← List.drop_drop]
      congr 1
theorem flatP_len (zs : List ColP.Rw) : (ColP.flat zs).length = zs.length * 3 := by
  induction zs with
  | nil => rfl
  | cons z zs ih =>
    show (ColP.cl z ++ ColP.flat zs).length = _
    rw [List.length_append, ih, List.length_cons]
    show 3 + zs.length * 3 = _
    omega
theorem rowsP_of {w : World} {A : Option Addr} {l : List Pt} (hr : Kd.C k39 w A l.length l) : ColP.Row w.heap.size w A (l.map rwP) := by
  by_cases hl : l.length = 0
  · exact .inl (by rw [List.eq_nil_of_length_eq_zero hl]; rfl)
  · obtain ⟨ad, rfl, p0, _, _⟩ := at_T39 hr 0 (by omega) (by omega)
    refine .inr ⟨ad, rfl, ?_, fun j hj => ?_⟩
    · have := World.block_lt_of_cell? w _ p0
      rwa [add_block] at this
    · rw [List.length_map] at hj
      obtain ⟨ad2, e, q0, q1, q2⟩ := at_T39 hr (j : Int) (by omega) (by omega)
      injection e with e
      subst e
      rw [rdP_at hj] at q0 q1 q2
      rw [Int.toNat_natCast] at q0 q1 q2
      have e : (l.map rwP)[j]?.getD ColP.z0 = rwP l[j] := by simp [hj]
      rw [e]
      exact ⟨q0, q1, q2⟩
theorem R_ofP {w1 : World} {B : Nat} {l : List Pt} {v : Value} (ho : w1.ownsRow B 39 3 v (l.map rwP).length (ColP.flat (l.map rwP))) : Kd.R k39 39 w1 B (fun _ => True) v l := by
  rw [List.length_map] at ho
  refine ⟨fun _ _ => trivial, ColP.flat (l.map rwP), ho, by rw [flatP_len, List.length_map]; rfl, fun j p hp => ?_⟩
  have hj : j < (l.map rwP).length := by rw [List.length_map]; exact (List.getElem?_eq_some_iff.1 hp).1
  show k39.M w1 B _ p (((ColP.flat (l.map rwP)).drop (j * 3)).take 3)
  rw [flatP_seg _ j hj]
  have e : (l.map rwP)[j] = rwP p := by
    rw [List.getElem_map]
    have := (List.getElem?_eq_some_iff.1 hp).2
    rw [this]
  rw [e]
  exact k39_mkM _ _ _ p
theorem valuesP_calls (A : Option Addr) (n c : Nat) (w : World) : Calls Tryz.prog 78 #[.slice A n c] w fun e w' => e = .returned (.func (.func 115) #[] #[.pointer (some ⟨w.heap.size, 0, none⟩)]) ∧ w' = w.alloc (.cells #[.slice A n c] 22) :=
  callsIn_wide.1 (ColP.values_in Fence.wide 3 trivial rfl A n c w)
theorem collectP_calls (Bs : Nat) (A : Option Addr) (cap : Nat) (zs : List ColP.Rw) (hreach : zs.length * 24 ≤ 140737488355328) (w : World) (hBs : Bs < w.heap.size) (hc : w.cell? ⟨Bs, 0, none⟩ = some (.slice A zs.length cap)) (hI : ColP.Row w.heap.size w A zs) :
    Calls Tryz.prog 113 #[.func (.func 115) #[] #[.pointer (some ⟨Bs, 0, none⟩)]] w fun e w' => ∃ v, e = .returned v ∧ w'.ownsRow w.heap.size 39 3 v zs.length (ColP.flat zs) ∧ Below w.heap.size w w' := by
  have HA := Sd.mk (callsIn_wide.1 (ColP.appendSeq_in Fence.wide 3 trivial trivial rfl (by omega) Bs A cap zs hreach w hBs hc hI))
  clear hreach hBs hc hI
  go_enter Tryz.func113, Tryz.ntmps113
  go_wp2_with (go_at_call 155; refine HA.out.mono ?_; rintro e w1 ⟨v, rfl, ho, hb⟩; have HO := Sd.mk ho; have HB := Sd.mk hb; clear ho hb)
  go_ret
  exact ⟨v, rfl, HO.out, HB.out⟩
theorem cmpC_is (a b : Int) : cmp_Compare_int64.f a b = some (cmpZ a b) := by
  unfold cmp_Compare_int64.f cmpZ
  have h : ∀ x, cmp_isNaN_int64.f x = some false := fun x => by unfold cmp_isNaN_int64.f; simp
  rw [h, h]
  simp only [Option.bind_some, Bool.false_eq_true, if_false]
  by_cases h1 : a < b
  · rw [if_pos h1, if_pos h1]
  · rw [if_neg h1, if_neg h1]
    by_cases h2 : b < a
    · rw [if_pos h2, if_pos h2]
    · rw [if_neg h2, if_neg h2]
theorem last1_tells : GSp.CmpTells k39 79 #[] cmpAt := by
  intro W base ok x y cs ds hx hy
  obtain rfl := k39_openM hx
  obtain rfl := k39_openM hy
  exact s_last_1.calls x.f0 x.f1.f0 x.f1.f1 y.f0 y.f1.f0 y.f1.f1 _ W (by unfold s_last_1.f; rw [cmpC_is]; rfl)
theorem sortedP_calls (Bs : Nat) (A : Option Addr) (cap : Nat) (l : List Pt) (hreach : l.length * 24 ≤ 140737488355328) (w : World) (hBs : Bs < w.heap.size) (hc : w.cell? ⟨Bs, 0, none⟩ = some (.slice A l.length cap)) (hr : Kd.C k39 w A l.length l) :
    Calls Tryz.prog 77 #[.func (.func 115) #[] #[.pointer (some ⟨Bs, 0, none⟩)], .func (.func 79) #[] #[]] w fun e w' => ∃ v, e = .returned v ∧ Kd.R k39 39 w' w.heap.size (fun _ => True) v (isort (ltOf cmpAt) l) ∧ Below w.heap.size w w' := by
  have HA := Sd.mk (collectP_calls Bs A cap (l.map rwP) (by rw [List.length_map]; exact hreach) w hBs (by rw [List.length_map]; exact hc) (rowsP_of hr))
  have hmx : l.length < 1152921504606846976 := by omega
  clear hreach hBs hc hr
  go_enter Tryz.func77, Tryz.ntmps77
  go_wp2_with fail
  refine HA.out.mono ?_
  rintro e w1 ⟨v, rfl, ho, hb⟩
  have HC := Sd.mk (GSp.sortStable_R k39 (by decide) Tryz.sizeOf39 cmpAt 79 #[] (enters_of Tryz.func79 (by kernel_rfl) rfl) cmpAt3.ord last1_tells (R_ofP ho) hmx)
  have HB := Sd.mk hb
  clear ho hb HA hmx
  go_wp2_with fail
  refine HC.out.mono ?_
  rintro e w2 ⟨rfl, hp, hb2⟩
  have HP := Sd.mk hp
  have HB2 := Sd.mk (HB.out.trans hb2)
  clear hp hb2
  go_wp2
  go_ret
  exact ⟨v, rfl, HP.out, HB2.out⟩
def valP (x : Pt) : V := (x.f1.f0, x.f1.f1)
/-- An operation of two values. -/
def do2 (op : ByteArray) (a b : V) : V := (vDo op [a, b]).1
theorem yes_calls (op : ByteArray) (a1 a2 b1 b2 : Int) (w : World) : Calls Tryz.prog 81 #[.string op, .agg #[.int .i64 a1, .int .i64 a2], .agg #[.int .i64 b1, .int .i64 b2]] w fun e w' => e = .returned (.bool (vTrue (do2 op (a1, a2) (b1, b2)))) ∧ Below w.heap.size w w' := by
  unfold do2
  rcases hdo : vDo op [(a1, a2), (b1, b2)] with ⟨⟨r1, r2⟩, r3⟩
  have hb := (below1 w (.cells #[.int .i64 a1, .int .i64 a2] 25)).alloc (by simp) (.cells #[.int .i64 b1, .int .i64 b2] 25)
  have HD := Sd.mk (do2_any op a1 a2 b1 b2 ((w.alloc (.cells #[.int .i64 a1, .int .i64 a2] 25)).alloc (.cells #[.int .i64 b1, .int .i64 b2] 25)) hdo)
  have HB := Sd.mk hb
  have HT := Sd.mk (fun w1 => v_True.calls r1 r2 _ w1 (true_is (r1, r2)))
  generalize vTrue ((r1, r2), r3).1 = t at HT ⊢
  simp only [World.size_alloc] at HD
  clear hdo hb
  go_enter Tryz.func81, Tryz.ntmps81
  go_wp2_with fail
  refine HD.out.mono ?_
  rintro e w1 ⟨rfl, hb1⟩
  have HB1 := Sd.mk (HB.out.trans (hb1.mono (by omega)))
  clear hb1
  go_wp2_with fail
  refine (HT.out _).mono ?_
  rintro e w2 ⟨rfl, hb2⟩
  have HB2 := Sd.mk ((HB1.out.alloc HB1.out.size (.cells #[.int .i64 r1, .int .i64 r2] 25)).trans (hb2.mono (HB1.out.alloc HB1.out.size (.cells #[.int .i64 r1, .int .i64 r2] 25)).size))
  clear hb2
  go_wp2
  go_ret
  exact ⟨rfl, HB2.out⟩
def bestGo (op : ByteArray) (v : V) (l : List Pt) : V := l.foldl (fun v p => if vTrue (do2 op (valP p) v) = true then valP p else v) v
def totalGo (v : V) (l : List Pt) : V := l.foldl (fun v p => do2 ⟨#[43]⟩ v (valP p)) v
theorem bestGo_take (op : ByteArray) (v : V) (l : List Pt) (i : Nat) (hi : i < l.length) : bestGo op v (l.take (i + 1)) = if vTrue (do2 op (valP l[i]) (bestGo op v (l.take i))) = true then valP l[i] else bestGo op v (l.take i) := by
  unfold bestGo
  rw [List.take_add_one, List.getElem?_eq_getElem hi, List.foldl_append]
  rfl
theorem totalGo_take (v : V) (l : List Pt) (i : Nat) (hi : i < l.length) : totalGo v (l.take (i + 1)) = do2 ⟨#[43]⟩ (totalGo v (l.take i)) (valP l[i]) := by
  unfold totalGo
  rw [List.take_add_one, List.getElem?_eq_getElem hi, List.foldl_append]
  rfl
theorem blk_old2 {w : World} {g : Nat} {o : Obj} (h : w.heap[g]? = some o) (o' : Obj) : (w.alloc o').heap[g]? = some o := (Below.heap_alloc w o' g (Array.getElem?_eq_some_iff.1 h).1).trans h
/-- A value's block, written over. -/
theorem set_val {W : World} {g : Nat} {a b x y : Value} {t : TypeId} (h : W.heap[g]? = some (.cells #[a, b] t (0, 0))) : ((W.setCell ⟨g, 0, none⟩ x).setCell ⟨g, 1, none⟩ y).heap[g]? = some (.cells #[x, y] t (0, 0)) := by
  have h1 : ∀ {W : World} {o : Nat} {cs : Array Value} {x : Value}, W.heap[g]? = some (.cells cs t (0, 0)) → (W.setCell ⟨g, o, none⟩ x).heap[g]? = some (.cells (cs.setIfInBounds o x) t (0, 0)) := fun {W o cs x} h => by
    rw [setCell_eq_setRow W g o cs t (0, 0) x h]
    exact setRow_heap W g cs _ t (0, 0) h
  exact h1 (h1 h)
theorem keep_val {W : World} {g h : Nat} {x y : Value} {o : Obj} (hh : W.heap[h]? = some o) (hne : h ≠ g) : ((W.setCell ⟨g, 0, none⟩ x).setCell ⟨g, 1, none⟩ y).heap[h]? = some o := by
  rw [Below.heap_setCell _ _ _ _ hne, Below.heap_setCell _ _ _ _ hne]; exact hh
theorem best_calls (op : ByteArray) (A : Option Addr) (c : Nat) (x : Pt) (l' : List Pt) (w : World) (hr : Kd.C k39 w A (x :: l').length (x :: l')) :
    Calls Tryz.prog 43 #[.slice A (x :: l').length c, .string op] w fun e w' => e = .returned (.agg #[.int .i64 (bestGo op (valP x) (x :: l')).1, .int .i64 (bestGo op (valP x) (x :: l')).2]) ∧ Below w.heap.size w w' := by
  have hmx : (x :: l').length ≤ 9223372036854775807 := Kd.C_max hr
  obtain ⟨ad, rfl, p0, p1, p2⟩ := at_T39 hr 0 (by omega) (by simp)
  have e0 : rd_T39 (x :: l') 0 = x := rfl
  rw [e0] at p0 p1 p2
  have HR := Sd.mk hr
  have hpos : 0 < (x :: l').length := by simp
  have hb0 := below1 w (.cells #[.int .i64 0, .int .i64 0] 25)
  have p1 := pw_cell_below hb0 p1
  have p2 := pw_cell_below hb0 p2
  have hz : ad.add (Int.toNat 0 * 3) = ad := by unfold Addr.add; simp
  rw [hz] at p1 p2
  obtain ⟨l, hl⟩ : ∃ l, x :: l' = l := ⟨_, rfl⟩
  rw [hl] at HR hmx hpos ⊢
  have X4 := Sd.mk (blk_old2 (blk_new w (.cells #[.int .i64 0, .int .i64 0] 25)) (.cells #[.int .i64 x.f1.f0, .int .i64 x.f1.f1] 25))
  have X5 := Sd.mk (blk_new (w.alloc (.cells #[.int .i64 0, .int .i64 0] 25)) (.cells #[.int .i64 x.f1.f0, .int .i64 x.f1.f1] 25))
  have HB0 := Sd.mk (bal hb0 (.cells #[.int .i64 x.f1.f0, .int .i64 x.f1.f1] 25))
  rw [World.size_alloc] at X5
  clear hl hr p0 e0 hb0 hz
  go_enter Tryz.func43, Tryz.ntmps43
  go_wp2
  go_loopw [14] (fun v14 wr => ∃ i : Nat, i ≤ l.length ∧ v14 = .int .i64 i ∧ Sd (wr.heap[w.heap.size]? = some (.cells #[.int .i64 0, .int .i64 0] 25 (0, 0))) ∧ Sd (wr.heap[w.heap.size + 1]? = some (.cells #[.int .i64 (bestGo op (valP x) (l.take i)).1, .int .i64 (bestGo op (valP x) (l.take i)).2] 25 (0, 0))) ∧ Sd (Below w.heap.size w wr)) (fun v14 _ => l.length - (intOf v14).toNat)
  case atStart => exact ⟨0, Nat.zero_le _, rfl, X4, X5, HB0⟩
  case round =>
    clear X4 X5 HB0
    obtain ⟨i, hi, rfl, H4, H5, HW⟩ := hrel
    by_cases hlt : i < l.length
    · have b1 : (i : Int) < (l.length : Int) := by omega
      obtain ⟨ad2, e2, q0, q1, q2⟩ := at_T39 (Kd.C_below HR.out HW.out) (i : Int) (by omega) (by omega)
      injection e2 with e2
      subst e2
      rw [rdP_at hlt] at q0 q1 q2
      rw [Int.toNat_natCast] at q0 q1 q2
      have hst := bestGo_take op (valP x) l i hlt
      generalize hbv : bestGo op (valP x) (l.take i) = bv at H5 hst
      obtain ⟨v1, v2⟩ := bv
      generalize l[i] = y at q0 q1 q2 hst
      have HST := Sd.mk hst
      have hba := below1 wr (.cells #[.int .i64 y.f0, .int .i64 y.f1.f0, .int .i64 y.f1.f1] 39)
      have c0 := (blk_cell (blk_below H5.out hba) 0).trans rfl
      have c1 := (blk_cell (blk_below H5.out hba) 1).trans rfl
      have HY := Sd.mk (yes_calls op y.f1.f0 y.f1.f1 v1 v2 (wr.alloc (.cells #[.int .i64 y.f0, .int .i64 y.f1.f0, .int .i64 y.f1.f1] 39)))
      have HA := Sd.mk hba
      have Y := Sd.mk (blk_new wr (.cells #[.int .i64 y.f0, .int .i64 y.f1.f0, .int .i64 y.f1.f1] 39))
      clear hst hbv hba
      generalize ht : vTrue (do2 op (y.f1.f0, y.f1.f1) (v1, v2)) = t at HY
      have HT := Sd.mk ht
      clear ht
      cases t with
      | true =>
        have HZ := Sd.mk (HST.out.trans (if_pos HT.out))
        go_wp2_with fail
        refine HY.out.mono ?_
        rintro e w2 ⟨rfl, hb2⟩
        have HB2 := Sd.mk (HA.out.trans (hb2.mono HA.out.size))
        have y0 := (blk_cell (blk_below Y.out hb2) 0).trans rfl
        have y1 := (blk_cell (blk_below Y.out hb2) 1).trans rfl
        have y2 := (blk_cell (blk_below Y.out hb2) 2).trans rfl
        have K5 := Sd.mk (blk_below H5.out HB2.out)
        have K4 := Sd.mk (blk_below H4.out HB2.out)
        have z0 := (blk_cell K5.out 0).trans rfl
        have z1 := (blk_cell K5.out 1).trans rfl
        have f0 := blk_frozen K5.out 0
        have f1 := blk_frozen K5.out 1
        have HW2 := Sd.mk (HW.out.trans (HB2.out.mono HW.out.size))
        clear hb2 c0 c1
        go_wp2
        go_roundw
        case rel => exact ⟨i + 1, by omega, by go_num, ⟨keep_val K4.out (by omega)⟩, ⟨by rw [HZ.out]; exact set_val K5.out⟩, ⟨(HW2.out.setCell (by simp) _).setCell (by simp) _⟩⟩
        case measure => simp [intOf]; omega
      | false =>
        have HZ := Sd.mk (HST.out.trans (if_neg (by rw [show (valP y) = (y.f1.f0, y.f1.f1) from rfl, HT.out]; simp)))
        go_wp2_with fail
        refine HY.out.mono ?_
        rintro e w2 ⟨rfl, hb2⟩
        have HB2 := Sd.mk (HA.out.trans (hb2.mono HA.out.size))
        have K5 := Sd.mk (blk_below H5.out HB2.out)
        have K4 := Sd.mk (blk_below H4.out HB2.out)
        have HW2 := Sd.mk (HW.out.trans (HB2.out.mono HW.out.size))
        clear hb2 c0 c1
        go_wp2
        go_roundw
        case rel => exact ⟨i + 1, by omega, by go_num, K4, ⟨by rw [HZ.out]; exact K5.out⟩, HW2⟩
        case measure => simp [intOf]; omega
    · have n1 : decide ((i : Int) < (l.length : Int)) = false := decide_eq_false (by omega)
      have n2 : decide (i < l.length) = false := decide_eq_false hlt
      have HE := Sd.mk (show l.take i = l from List.take_of_length_le (by omega))
      rw [HE.out] at H5
      have HG := Sd.mk (rfl : bestGo op (valP x) l = bestGo op (valP x) l)
      generalize hbv : bestGo op (valP x) l = bv at H5
      have HBV := Sd.mk hbv
      obtain ⟨v1, v2⟩ := bv
      have c0 := (blk_cell H5.out 0).trans rfl
      have c1 := (blk_cell H5.out 1).trans rfl
      have d0 := (blk_cell H4.out 0).trans rfl
      have d1 := (blk_cell H4.out 1).trans rfl
      have f0 := blk_frozen H4.out 0
      have f1 := blk_frozen H4.out 1
      have hn1 : decide (i < l.length) = false := n2
      clear hbv hn1 HG
      go_wp2
      exact bodyPost_ret (v := .agg #[.int .i64 v1, .int .i64 v2]) (by simp [results, Tryz.results43, go_sem, d0, d1]) rfl ⟨by rw [HBV.out], (HW.out.setCell (by simp) _).setCell (by simp) _⟩
theorem total_calls (A : Option Addr) (c : Nat) (x : Pt) (l' : List Pt) (w : World) (hr : Kd.C k39 w A (x :: l').length (x :: l')) (hc : (x :: l').length ≤ c) :
    Calls Tryz.prog 44 #[.slice A (x :: l').length c] w fun e w' => e = .returned (.agg #[.int .i64 (totalGo (valP x) l').1, .int .i64 (totalGo (valP x) l').2]) ∧ Below w.heap.size w w' := by
  have hmx : (x :: l').length ≤ 9223372036854775807 := Kd.C_max hr
  obtain ⟨ad, rfl, p0, p1, p2⟩ := at_T39 hr 0 (by omega) (by simp)
  have e0 : rd_T39 (x :: l') 0 = x := rfl
  rw [e0] at p0 p1 p2
  have hd := Kd.C_drop hr (m := 1) (by simp) hc
  have hlen : (x :: l').length = l'.length + 1 := rfl
  rw [hlen] at hmx hc ⊢
  have hb0 := below1 w (.cells #[.int .i64 0, .int .i64 0] 25)
  have p1 := pw_cell_below hb0 p1
  have p2 := pw_cell_below hb0 p2
  have hz : ad.add (Int.toNat 0 * 3) = ad := by unfold Addr.add; simp
  rw [hz] at p1 p2
  have X4 := Sd.mk (blk_old2 (blk_new w (.cells #[.int .i64 0, .int .i64 0] 25)) (.cells #[.int .i64 x.f1.f0, .int .i64 x.f1.f1] 25))
  have X5 := Sd.mk (blk_new (w.alloc (.cells #[.int .i64 0, .int .i64 0] 25)) (.cells #[.int .i64 x.f1.f0, .int .i64 x.f1.f1] 25))
  have HB0 := Sd.mk (bal hb0 (.cells #[.int .i64 x.f1.f0, .int .i64 x.f1.f1] 25))
  rw [World.size_alloc] at X5
  have s1 : (((l'.length + 1 : Nat) : Int) - 1) = (l'.length : Int) := by omega
  clear hr p0 e0 hb0 hz hlen
  by_cases hc1 : c = 1
  · rw [if_pos hc1] at hd
    have HR := Sd.mk (show Kd.C k39 w (some ad) l'.length l' from hd)
    subst hc1
    have hl0 : l'.length = 0 := by omega
    have hnil : l' = [] := List.eq_nil_of_length_eq_zero hl0
    subst hnil
    clear hd hl0
    go_enter Tryz.func44, Tryz.ntmps44
    go_wp2
    go_loopw [13] (fun v13 wr => v13 = .int .i64 0 ∧ Sd (wr.heap[w.heap.size]? = some (.cells #[.int .i64 0, .int .i64 0] 25 (0, 0))) ∧ Sd (wr.heap[w.heap.size + 1]? = some (.cells #[.int .i64 x.f1.f0, .int .i64 x.f1.f1] 25 (0, 0))) ∧ Sd (Below w.heap.size w wr)) (fun v13 _ => 0)
    case atStart => exact ⟨rfl, X4, X5, HB0⟩
    case round =>
      clear X4 X5 HB0
      obtain ⟨rfl, H4, H5, HW⟩ := hrel
      have c0 := (blk_cell H5.out 0).trans rfl
      have c1 := (blk_cell H5.out 1).trans rfl
      have d0 := (blk_cell H4.out 0).trans rfl
      have d1 := (blk_cell H4.out 1).trans rfl
      have f0 := blk_frozen H4.out 0
      have f1 := blk_frozen H4.out 1
      go_wp2
      exact bodyPost_ret (v := .agg #[.int .i64 x.f1.f0, .int .i64 x.f1.f1]) (by simp [results, Tryz.results44, go_sem, d0, d1]) rfl ⟨rfl, (HW.out.setCell (by simp) _).setCell (by simp) _⟩
  · rw [if_neg hc1] at hd
    have ha3 : ad.add 3 = ⟨ad.block, ad.off + 3, none⟩ := by unfold Addr.add; simp
    have HR := Sd.mk (show Kd.C k39 w (some ⟨ad.block, ad.off + 3, none⟩) l'.length l' by rw [← ha3]; exact hd)
    clear ha3
    have hgt : 1 < c := by omega
    have hcn : (c == 1) = false := by simpa using hc1
    clear hd hc1
    go_enter Tryz.func44, Tryz.ntmps44
    go_wp2
    go_loopw [13] (fun v13 wr => ∃ i : Nat, i ≤ l'.length ∧ v13 = .int .i64 i ∧ Sd (wr.heap[w.heap.size]? = some (.cells #[.int .i64 0, .int .i64 0] 25 (0, 0))) ∧ Sd (wr.heap[w.heap.size + 1]? = some (.cells #[.int .i64 (totalGo (valP x) (l'.take i)).1, .int .i64 (totalGo (valP x) (l'.take i)).2] 25 (0, 0))) ∧ Sd (Below w.heap.size w wr)) (fun v13 _ => l'.length - (intOf v13).toNat)
    case atStart => exact ⟨0, Nat.zero_le _, rfl, X4, X5, HB0⟩
    case round =>
      clear X4 X5 HB0
      obtain ⟨i, hi, rfl, H4, H5, HW⟩ := hrel
      by_cases hlt : i < l'.length
      · have b1 : (i : Int) < (l'.length : Int) := by omega
        obtain ⟨ad2, e2, q0, q1, q2⟩ := at_T39 (Kd.C_below HR.out HW.out) (i : Int) (by omega) (by omega)
        injection e2 with e2
        subst e2
        rw [rdP_at hlt] at q0 q1 q2
        rw [Int.toNat_natCast, add_at] at q0 q1 q2
        have hst := totalGo_take (valP x) l' i hlt
        generalize hbv : totalGo (valP x) (l'.take i) = bv at H5 hst
        obtain ⟨v1, v2⟩ := bv
        generalize l'[i] = y at q0 q1 q2 hst
        rcases hdo : vDo ⟨#[43]⟩ [(v1, v2), (y.f1.f0, y.f1.f1)] with ⟨⟨r1, r2⟩, r3⟩
        have HST := Sd.mk (hst.trans (show do2 ⟨#[43]⟩ (v1, v2) (valP y) = (r1, r2) by unfold do2 valP; rw [hdo]))
        have hba := below1 wr (.cells #[.int .i64 y.f0, .int .i64 y.f1.f0, .int .i64 y.f1.f1] 39)
        have c0 := (blk_cell (blk_below H5.out hba) 0).trans rfl
        have c1 := (blk_cell (blk_below H5.out hba) 1).trans rfl
        have HD := Sd.mk (do2_any ⟨#[43]⟩ v1 v2 y.f1.f0 y.f1.f1 (wr.alloc (.cells #[.int .i64 y.f0, .int .i64 y.f1.f0, .int .i64 y.f1.f1] 39)) hdo)
        simp only [World.size_alloc] at HD
        have HA := Sd.mk hba
        clear hst hbv hba hdo
        go_wp2_with fail
        refine HD.out.mono ?_
        rintro e w2 ⟨rfl, hb2⟩
        have HB2 := Sd.mk (HA.out.trans (hb2.mono (Nat.le_succ _)))
        have K5 := Sd.mk (blk_below H5.out HB2.out)
        have K4 := Sd.mk (blk_below H4.out HB2.out)
        have z0 := (blk_cell K5.out 0).trans rfl
        have z1 := (blk_cell K5.out 1).trans rfl
        have f0 := blk_frozen K5.out 0
        have f1 := blk_frozen K5.out 1
        have HW2 := Sd.mk (HW.out.trans (HB2.out.mono HW.out.size))
        clear hb2 c0 c1
        go_wp2
        go_roundw
        case rel => exact ⟨i + 1, by omega, by go_num, ⟨keep_val K4.out (by omega)⟩, ⟨by rw [HST.out]; exact set_val K5.out⟩, ⟨(HW2.out.setCell (by simp) _).setCell (by simp) _⟩⟩
        case measure => simp [intOf]; omega
      · have n1 : decide ((i : Int) < (l'.length : Int)) = false := decide_eq_false (by omega)
        have n2 : decide (i < l'.length) = false := decide_eq_false hlt
        have HE := Sd.mk (show l'.take i = l' from List.take_of_length_le (by omega))
        rw [HE.out] at H5
        generalize hbv : totalGo (valP x) l' = bv at H5
        have HBV := Sd.mk hbv
        obtain ⟨v1, v2⟩ := bv
        have c0 := (blk_cell H5.out 0).trans rfl
        have c1 := (blk_cell H5.out 1).trans rfl
        have d0 := (blk_cell H4.out 0).trans rfl
        have d1 := (blk_cell H4.out 1).trans rfl
        have f0 := blk_frozen H4.out 0
        have f1 := blk_frozen H4.out 1
        clear hbv
        go_wp2
        exact bodyPost_ret (v := .agg #[.int .i64 v1, .int .i64 v2]) (by simp [results, Tryz.results44, go_sem, d0, d1]) rfl ⟨by rw [HBV.out], (HW.out.setCell (by simp) _).setCell (by simp) _⟩
end Go.Proofs.YtcmiehddjgfjaaaGreat.A
namespace Go.Proofs.YtcmiehddjgfjaaaGreat.B
open Go.RowKit Go.Proofs.YtcmiehddjgfjaaaGreatW.PrintWords Go.Proofs.YtcmiehddjgfjaaaGreatW.PrintLast Go.Proofs.YtcmiehddjgfjaaaGreatW.PrintMore
attribute [local go_sem] max2_int min2_int max_two min_two max_three min_three max_four min_four   -- for this text's walks alone
def errW : Option Int → Value
  | none => .nilIface
  | some c => .iface 0 (.int .i64 c)
theorem errW_none : errW none = .nilIface := rfl
theorem errW_some (c : Int) : errW (some c) = .iface 0 (.int .i64 c) := rfl
def slices_Index_string_string.l0 : Nat → List ByteArray → ByteArray → Int → Int → Option (Int)
  | 0, _, _, _, _ => none
  | k + 1, x0, x1, x7, x8 => if x8 < x7 then (if 0 ≤ x8 then (if x8 < (x0.length : Int) then (if x1.toList = (rdOf ByteArray.empty x0 x8).toList then (some x8) else (slices_Index_string_string.l0 k x0 x1 x7 (wrap64 (x8 + 1)))) else (none)) else (none)) else (some (-1))
def slices_Index_string_string.f (k : Nat) (l0 : List ByteArray) (a1 : ByteArray) : Option (Int) := slices_Index_string_string.l0 k l0 a1 (l0.length : Int) 0
theorem slices_Index_string_string.mono_l : ∀ k, (∀ y0 y1 y2 y3, LeO (slices_Index_string_string.l0 k y0 y1 y2 y3) (slices_Index_string_string.l0 (k + 1) y0 y1 y2 y3))
  | 0 => fun _ _ _ _ r h => by simp [slices_Index_string_string.l0] at h
  | k + 1 => by
    have ih0 := slices_Index_string_string.mono_l k
    · intro y0 y1 y2 y3
      unfold slices_Index_string_string.l0
      repeat' first
      | (with_reducible exact ih0 _ _ _ _)
      | (with_reducible exact LeO.refl _)
      | (with_reducible exact LeO.none _)
      | (with_reducible refine LeO.ite ?_ ?_)
      | (with_reducible refine LeO.bind ?_ (fun _ => ?_))
      | exact ih0 _ _ _ _
      | exact LeO.none _
      | refine LeO.ite ?_ ?_
      | refine LeO.bind ?_ (fun _ => ?_)
theorem slices_Index_string_string.mono : ∀ a0 a1 k, LeO (slices_Index_string_string.f k a0 a1) (slices_Index_string_string.f (k + 1) a0 a1) := by
  intro a0 a1 k
  have ih0 := slices_Index_string_string.mono_l k
  unfold slices_Index_string_string.f
  repeat' first
      | (with_reducible exact ih0 _ _ _ _)
      | (with_reducible exact LeO.refl _)
      | (with_reducible exact LeO.none _)
      | (with_reducible refine LeO.ite ?_ ?_)
      | (with_reducible refine LeO.bind ?_ (fun _ => ?_))
      | exact ih0 _ _ _ _
      | exact LeO.none _
      | refine LeO.ite ?_ ?_
      | refine LeO.bind ?_ (fun _ => ?_)
theorem slices_Index_string_string.calls (k : Nat) (A0 : Option Addr) (c0 : Nat) (l0 : List ByteArray) (a1 : ByteArray) (r : Int) (w : World) (hr0 : Kd.C Kd.string w A0 l0.length l0) (hc0 : l0.length ≤ c0) (h : slices_Index_string_string.f k l0 a1 = some r) :
    Calls Tryz.prog 71 #[.slice A0 l0.length c0, .string a1] w fun e w' => e = .returned (.int .i64 r) ∧ Drawn0 w w' := by
  have HR0 := Sd.mk hr0
  have HC0 := Sd.mk hc0
  clear hr0 hc0
  have H : (slices_Index_string_string.l0 k l0 a1 (l0.length : Int) 0) = some r := h
  clear h
  have H' := Sd.mk H
  clear H
  go_enter Tryz.func71, Tryz.ntmps71
  go_wp2
  go_loopg [8] k (fun kq v8 w' => ∃ (x8_1 : Int), v8 = .int .i64 x8_1 ∧ Sd (slices_Index_string_string.l0 kq l0 a1 (l0.length : Int) x8_1 = some r) ∧ Sd (kq ≤ k) ∧ Drawn0 w w')
  case atStart => exact ⟨(0), (by first | rfl | (simp; done) | (simp [*]; done)), H', ⟨Nat.le_refl _⟩, by repeat (first | exact Drawn0.refl _ | apply Drawn0.step)⟩
  case round =>
    clear H'
    try clear p2
    obtain ⟨x8_1, rfl, HA, HK1, ⟨m1, rfl⟩⟩ := hrel
    cases gk with
    | zero => exact absurd HA.out (by simp [slices_Index_string_string.l0])
    | succ k1 =>
      have H := HA.out
      clear HA
      simp only [slices_Index_string_string.l0] at H
      by_cases c3 : x8_1 < (l0.length : Int)
      · rw [if_pos c3] at H
        have c3b0 : decide (x8_1 < (l0.length : Int)) = true := decide_eq_true c3
        clear c3
        by_cases c4 : 0 ≤ x8_1
        · rw [if_pos c4] at H
          have c4b0 : decide (0 ≤ x8_1) = true := decide_eq_true c4
          clear c4
          by_cases c5 : x8_1 < (l0.length : Int)
          · rw [if_pos c5] at H
            have c5b0 : decide (x8_1 < (l0.length : Int)) = true := decide_eq_true c5
            clear c5
            by_cases c6 : a1.toList = (rdOf ByteArray.empty l0 x8_1).toList
            · rw [if_pos c6] at H
              have c6b0 : (a1.toList == (rdOf ByteArray.empty l0 x8_1).toList) = true := beq_iff_eq.mpr c6
              have c6b1 : (a1.toList != (rdOf ByteArray.empty l0 x8_1).toList) = false := bne_eq_false_iff_eq.mpr c6
              clear c6
              obtain rfl := Option.some.inj H
              have p101 : 0 ≤ (x8_1 : Int) := of_decide_eq_true (by first | (with_reducible assumption) | assumption)
              have q101 : x8_1 < (l0.length : Int) := of_decide_eq_true (by first | (with_reducible assumption) | assumption)
              obtain ⟨ad101, e101, hx101_0⟩ := Kd.at_string HR0.out x8_1 p101 q101
              cases e101
              replace p101 := eq_true p101
              replace q101 := eq_true q101
              go_wp2
              go_ret
              exact ⟨by first | rfl | (simp; done) | (simp [*]; done), by repeat (first | exact Drawn0.refl _ | apply Drawn0.step)⟩
            · rw [if_neg c6] at H
              have c6b0 : (a1.toList == (rdOf ByteArray.empty l0 x8_1).toList) = false := beq_eq_false_iff_ne.mpr c6
              have c6b1 : (a1.toList != (rdOf ByteArray.empty l0 x8_1).toList) = true := bne_iff_ne.mpr c6
              have H' := Sd.mk H
              clear H
              have p101 : 0 ≤ (x8_1 : Int) := of_decide_eq_true (by first | (with_reducible assumption) | assumption)
              have q101 : x8_1 < (l0.length : Int) := of_decide_eq_true (by first | (with_reducible assumption) | assumption)
              obtain ⟨ad101, e101, hx101_0⟩ := Kd.at_string HR0.out x8_1 p101 q101
              cases e101
              replace p101 := eq_true p101
              replace q101 := eq_true q101
              go_wp2
              go_roundg k1
              case measure => have := HK1.out; omega
              case rel => exact ⟨(wrap64 (x8_1 + 1)), (by first | rfl | (simp; done) | (simp [*]; done)), H', ⟨by have := HK1.out; omega⟩, by repeat (first | exact Drawn0.refl _ | apply Drawn0.step)⟩
          · rw [if_neg c5] at H
            exact absurd H (by simp)
        · rw [if_neg c4] at H
          exact absurd H (by simp)
      · rw [if_neg c3] at H
        have c3b0 : decide (x8_1 < (l0.length : Int)) = false := decide_eq_false c3
        clear c3
        obtain rfl := Option.some.inj H
        go_wp2
        go_ret
        exact ⟨by first | rfl | (simp; done) | (simp [*]; done), by repeat (first | exact Drawn0.refl _ | apply Drawn0.step)⟩
def slices_Contains_string_string.f (k : Nat) (l0 : List ByteArray) (a1 : ByteArray) : Option (Bool) := (slices_Index_string_string.f k l0 a1).bind fun t102 => (some (decide (t102 ≥ 0)))
theorem slices_Contains_string_string.mono : ∀ a0 a1 k, LeO (slices_Contains_string_string.f k a0 a1) (slices_Contains_string_string.f (k + 1) a0 a1) := by
  intro a0 a1 k
  unfold slices_Contains_string_string.f
  repeat' first
      | (with_reducible exact slices_Index_string_string.mono _ _ _)
      | (with_reducible exact LeO.refl _)
      | (with_reducible exact LeO.none _)
      | (with_reducible refine LeO.ite ?_ ?_)
      | (with_reducible refine LeO.bind ?_ (fun _ => ?_))
      | exact slices_Index_string_string.mono _ _ _
      | exact LeO.none _
      | refine LeO.ite ?_ ?_
      | refine LeO.bind ?_ (fun _ => ?_)
theorem slices_Contains_string_string.calls (k : Nat) (A0 : Option Addr) (c0 : Nat) (l0 : List ByteArray) (a1 : ByteArray) (r : Bool) (w : World) (hr0 : Kd.C Kd.string w A0 l0.length l0) (hc0 : l0.length ≤ c0) (h : slices_Contains_string_string.f k l0 a1 = some r) :
    Calls Tryz.prog 30 #[.slice A0 l0.length c0, .string a1] w fun e w' => e = .returned (.bool r) ∧ Drawn0 w w' := by
  have HR0 := Sd.mk hr0
  have HC0 := Sd.mk hc0
  clear hr0 hc0
  have H : ((slices_Index_string_string.f k l0 a1).bind fun t102 => (some (decide (t102 ≥ 0)))) = some r := h
  clear h
  replace H := Option.bind_eq_some_iff.mp H
  obtain ⟨t102, A30, H⟩ := H
  replace H : (some (decide (t102 ≥ 0))) = some r := H
  have A3 := Sd.mk A30
  clear A30
  obtain rfl := Option.some.inj H
  go_enter Tryz.func30, Tryz.ntmps30
  go_wp2_with (first | ((with_reducible refine gate_callee (f := 71) rfl ?_); refine goesL_ (some 7) rfl rfl Tryz.func71 (by kernel_rfl) rfl #[.slice A0 l0.length c0, .string a1] rfl (by (try simp only [List.map_toArray, List.map_cons, List.map_nil]); first | done | rfl | (simp only [List.length_drop, List.length_take]; rfl)) ?_; (with_reducible refine (slices_Index_string_string.calls k _ _ l0 a1 t102 _ ?side1 ?side2 A3.out).mono ?_); (case side1 => repeat (first | exact HR0.out | (with_reducible refine Kd.C_alloc ?_ _) | (with_reducible refine Kd.C_drewN ?_ _) | (with_reducible refine Kd.C_drew ?_))); (case side2 => exact HC0.out); rintro e w' ⟨rfl, ⟨nd, rfl⟩⟩; refine ⟨_, rfl, ?_⟩))
  go_ret
  exact ⟨by first | rfl | (simp; done) | (simp [*]; done), by repeat (first | exact Drawn0.refl _ | apply Drawn0.step)⟩
end Go.Proofs.YtcmiehddjgfjaaaGreat.B
namespace Go.Proofs.YtcmiehddjgfjaaaGreat.A
open Go.RowKit Go.Proofs.YtcmiehddjgfjaaaGreatW.PrintWords Go.Proofs.YtcmiehddjgfjaaaGreatW.PrintLast Go.Proofs.YtcmiehddjgfjaaaGreatW.PrintMore Go.Proofs.YtcmiehddjgfjaaaGreat.St Go.Proofs.YtcmiehddjgfjaaaGreat.Stable
theorem last_get {x : Pt} {l' : List Pt} : ∃ h : (x :: l').length - 1 < (isort (ltOf cmpAt) (x :: l')).length, (isort (ltOf cmpAt) (x :: l'))[(x :: l').length - 1] = lastOf cmpAt x l' := by
  have h := last_isort cmpAt3 x l'
  have hl := isort_length (lt := ltOf cmpAt) (x :: l')
  have hp : (x :: l').length - 1 < (isort (ltOf cmpAt) (x :: l')).length := by rw [hl]; simp
  refine ⟨hp, ?_⟩
  rw [List.getLast?_eq_getElem?, hl, List.getElem?_eq_getElem hp] at h
  exact Option.some.inj h
theorem last_calls (A : Option Addr) (c : Nat) (x : Pt) (l' : List Pt) (hl : (x :: l').length * 24 ≤ 140737488355328) (w : World) (hr : Kd.C k39 w A (x :: l').length (x :: l')) :
    Calls Tryz.prog 40 #[.slice A (x :: l').length c] w fun e w' => e = .returned (.agg #[.int .i64 (valP (lastOf cmpAt x l')).1, .int .i64 (valP (lastOf cmpAt x l')).2]) ∧ Below w.heap.size w w' := by
  obtain ⟨hp, hlast⟩ := last_get (x := x) (l' := l')
  have hsl := isort_length (lt := ltOf cmpAt) (x :: l')
  have hb0 := below1 w (.cells #[.int .i64 0, .int .i64 0] 25)
  have hb1 := bal hb0 (.cells #[.slice A (x :: l').length c] 22)
  have X4 := Sd.mk (blk_old2 (blk_new w (.cells #[.int .i64 0, .int .i64 0] 25)) (.cells #[.slice A (x :: l').length c] 22))
  have X5 := blk_new (w.alloc (.cells #[.int .i64 0, .int .i64 0] 25)) (.cells #[.slice A (x :: l').length c] 22)
  have HS := Sd.mk (sortedP_calls (w.heap.size + 1) A c (x :: l') hl ((w.alloc (.cells #[.int .i64 0, .int .i64 0] 25)).alloc (.cells #[.slice A (x :: l').length c] 22)) (by simp) (by rw [World.size_alloc] at X5; exact (blk_cell X5 0).trans rfl) (Kd.C_below hr hb1))
  have HB := Sd.mk hb1
  generalize isort (ltOf cmpAt) (x :: l') = s at hp hlast hsl HS
  generalize lastOf cmpAt x l' = y at hlast ⊢
  have hn : (x :: l').length = l'.length + 1 := rfl
  rw [hn] at HS HB X4 hl ⊢
  have hp2 : l'.length < s.length := by rw [hsl, hn]; omega
  have hlast2 : s[l'.length] = y := hlast
  have HL := Sd.mk hlast2
  have HN := Sd.mk (show s.length = l'.length + 1 from hsl)
  clear hlast hlast2 hsl hr hb0 hb1 X5 hp hn
  have s1 : (((l'.length + 1 : Nat) : Int) - 1) = (l'.length : Int) := by omega
  go_enter Tryz.func40, Tryz.ntmps40
  go_wp2_with fail
  refine (valuesP_calls _ _ _ _).mono ?_
  rintro e w1 ⟨rfl, rfl⟩
  go_wp2_with fail
  refine HS.out.mono ?_
  rintro e w2 ⟨v, rfl, hv, hb2⟩
  have HB2 := Sd.mk (HB.out.trans (hb2.mono HB.out.size))
  have K4 := Sd.mk (blk_below X4.out hb2)
  obtain ⟨A2, c2, rfl, _, hC⟩ := Kd.R_reads hv
  obtain ⟨ad, rfl, p0, p1, p2⟩ := at_T39 hC (l'.length : Int) (by omega) (by omega)
  rw [rdP_at hp2, HL.out] at p1 p2
  rw [Int.toNat_natCast] at p1 p2
  have d0 := (blk_cell K4.out 0).trans rfl
  have d1 := (blk_cell K4.out 1).trans rfl
  have f0 := blk_frozen K4.out 0
  have f1 := blk_frozen K4.out 1
  have bN : (l'.length : Int) < (s.length : Int) := by omega
  have HN2 := Sd.mk HN.out
  rw [HN.out]
  clear hv hb2 hC p0 X4
  go_wp2
  exact bodyPost_ret (v := .agg #[.int .i64 y.f1.f0, .int .i64 y.f1.f1]) (by simp [results, Tryz.results40, go_sem, d0, d1]) rfl ⟨rfl, (HB2.out.setCell (by simp) _).setCell (by simp) _⟩
/-- copy of elements of whatever size, all of them in cells. -/
theorem run_copy_k {P : Program} (w : World) (dT sT ty elem : TypeId) (b o dLen dCap : Nat) (a : Addr) (sLen sCap sz : Nat) (cs : List Value)
    (hu : P.underlying dT = some (.slice elem)) (hs : (P.info? elem).map (·.size) = some sz) (hn : cs.length = Nat.min sLen dLen * sz)
    (hsrc : ∀ j v, cs[j]? = some v → w.cell? (a.add j) = some v) (hc : ∀ j, j < cs.length → (w.cell? ⟨b, o + j, none⟩).isSome = true) (hf : ∀ j, j < cs.length → w.frozen? ⟨b, o + j, none⟩ = false) (h1 : ∀ v ∈ cs, v.oneCell' = true) :
    (Builtin.copy_ #[dT, sT] ty #[.slice (some ⟨b, o, none⟩) dLen dCap, .slice (some a) sLen sCap]).run P w = .ok (goInt (Nat.min sLen dLen)) (w.setCells b o cs) := by
  have hl := run_loadCells_list (P := P) w a cs hsrc
  have hst := run_storeCells_cells (P := P) b o cs 0 w (by simpa using hc) (by simpa using hf) h1
  cases hq : P.info? elem with
  | none => simp [hq] at hs
  | some i =>
    have hi : i.size = sz := by simpa [hq] using hs
    simp [Builtin.copy_, run_underlying hu, Builtin.lenOf, Builtin.firstCells, sizeOf, typeInfo, hq, hi, ← hn, hl, hst]
theorem mul_one (m : Int) (h0 : 0 ≤ m) (h : m ≤ 2) (w : World) : Calls Tryz.prog 150 #[.int .u64 1, .int .u64 m] w fun e w' => e = .returned (.tuple #[.int .u64 0, .int .u64 m]) ∧ Below w.heap.size w w' := by
  have hm := mul128 1 m (by omega) (by omega) h0 (by omega)
  have e1 : (1 * m) / 18446744073709551616 = 0 := by omega
  have e2 : (1 * m) % 18446744073709551616 = m := by omega
  rw [e1, e2] at hm
  have HC := Sd.mk (bits_Mul64.calls 1 m 0 m w hm)
  clear hm e1 e2
  go_enter Tryz.func150, Tryz.ntmps150
  go_wp2_with (go_at_call 163; refine HC.out.mono ?_; rintro e w1 ⟨rfl, ⟨n, rfl⟩⟩)
  go_ret2
  exact ⟨rfl, pbd (Below.refl _ _) n⟩
theorem info_size {P : Program} {e : TypeId} {z : Value} {n b : Nat} (h : (P.info? e).map (fun i => (i.zero, i.size, i.bytes)) = some (some z, n, b)) : (P.info? e).map (·.size) = some n := by
  obtain ⟨i, hi, _, h2, _⟩ := info_parts h
  rw [hi]; exact congrArg some h2
/-- A row of two values' cells, laid just now. -/
theorem row4 {W : World} {g : Nat} {a1 a2 b1 b2 : Int} (h : W.heap[g]? = some (.cells #[.int .i64 a1, .int .i64 a2, .int .i64 b1, .int .i64 b2] 25 (0, 0))) : Kd.C k25 W (some ⟨g, 0, none⟩) 2 [⟨a1, a2⟩, ⟨b1, b2⟩] := by
  refine ⟨rfl, by simp, fun _ => ⟨_, rfl, fun j p hp => ?_⟩⟩
  match j, hp with
  | 0, hp =>
    injection hp with hp
    subst hp
    exact ⟨[.int .i64 a1, .int .i64 a2], rfl, k25_mk _ _, fun i u hu => by
      match i, hu with
      | 0, hu => exact (blk_cell h 0).trans hu
      | 1, hu => exact (blk_cell h 1).trans hu
      | i + 2, hu => simp at hu⟩
  | 1, hp =>
    injection hp with hp
    subst hp
    exact ⟨[.int .i64 b1, .int .i64 b2], rfl, k25_mk _ _, fun i u hu => by
      match i, hu with
      | 0, hu => exact (blk_cell h 2).trans hu
      | 1, hu => exact (blk_cell h 3).trans hu
      | i + 2, hu => simp at hu⟩
  | j + 2, hp => simp at hp
theorem row2 {W : World} {g : Nat} {a1 a2 : Int} (h : W.heap[g]? = some (.cells #[.int .i64 a1, .int .i64 a2] 25 (0, 0))) : Kd.C k25 W (some ⟨g, 0, none⟩) 1 [⟨a1, a2⟩] := by
  refine ⟨rfl, by simp, fun _ => ⟨_, rfl, fun j p hp => ?_⟩⟩
  match j, hp with
  | 0, hp =>
    injection hp with hp
    subst hp
    exact ⟨[.int .i64 a1, .int .i64 a2], rfl, k25_mk _ _, fun i u hu => by
      match i, hu with
      | 0, hu => exact (blk_cell h 0).trans hu
      | 1, hu => exact (blk_cell h 1).trans hu
      | i + 2, hu => simp at hu⟩
  | j + 1, hp => simp at hp
theorem made_2 : madeCells (Value.agg #[.int .i64 0, .int .i64 0]).cells (Int.toNat 1 * 2) = #[.int .i64 0, .int .i64 0] := by kernel_rfl
theorem made_4 : madeCells (Value.agg #[.int .i64 0, .int .i64 0]).cells (Int.toNat 2 * 2) = #[.int .i64 0, .int .i64 0, .int .i64 0, .int .i64 0] := by kernel_rfl
theorem made2 (W : World) : (Instr.makeSlice 47 (.int .i64 1) (.int .i64 1)).run Tryz.prog W = .ok (.slice (some ⟨W.heap.size, 0, none⟩) 1 1) (W.alloc (.cells #[.int .i64 0, .int .i64 0] 25)) := by
  obtain ⟨i, hi, hz, h1, h2⟩ := info_parts info25
  have h := run_makeSlice (P := Tryz.prog) W 47 25 i _ Tryz.underlying47 hi hz .i64 .i64 1 1 (by omega) (by omega) (by rw [h1]; decide) (by rw [h2]; decide) (by omega)
  rw [h1, made_2] at h
  exact h
theorem made4 (W : World) : (Instr.makeSlice 47 (.int .i64 2) (.int .i64 2)).run Tryz.prog W = .ok (.slice (some ⟨W.heap.size, 0, none⟩) 2 2) (W.alloc (.cells #[.int .i64 0, .int .i64 0, .int .i64 0, .int .i64 0] 25)) := by
  obtain ⟨i, hi, hz, h1, h2⟩ := info_parts info25
  have h := run_makeSlice (P := Tryz.prog) W 47 25 i _ Tryz.underlying47 hi hz .i64 .i64 2 2 (by omega) (by omega) (by rw [h1]; decide) (by rw [h2]; decide) (by omega)
  rw [h1, made_4] at h
  exact h
/-- A block's cells written over, as a block. -/
theorem set_blk {W : World} {g o : Nat} {t : TypeId} {cs : Array Value} {x : Value} (h : W.heap[g]? = some (.cells cs t (0, 0))) : (W.setCell ⟨g, o, none⟩ x).heap[g]? = some (.cells (cs.setIfInBounds o x) t (0, 0)) := by
  rw [setCell_eq_setRow W g o cs t (0, 0) x h]
  exact setRow_heap W g cs _ t (0, 0) h
theorem set2_0 {W : World} {g : Nat} {t : TypeId} {a b c d x y : Value} (h : W.heap[g]? = some (.cells #[a, b, c, d] t (0, 0))) : (W.setCells g 0 [x, y]).heap[g]? = some (.cells #[x, y, c, d] t (0, 0)) := set_blk (set_blk h)
theorem set2_1 {W : World} {g : Nat} {t : TypeId} {a b c d x y : Value} (h : W.heap[g]? = some (.cells #[a, b, c, d] t (0, 0))) : (W.setCells g 2 [x, y]).heap[g]? = some (.cells #[a, b, x, y] t (0, 0)) := set_blk (set_blk h)
theorem set2_2 {W : World} {g : Nat} {t : TypeId} {a b x y : Value} (h : W.heap[g]? = some (.cells #[a, b] t (0, 0))) : (W.setCells g 0 [x, y]).heap[g]? = some (.cells #[x, y] t (0, 0)) := set_blk (set_blk h)
theorem below_set2 {B : Nat} {w W : World} {g o : Nat} {x y : Value} (h : Below B w W) (hg : B ≤ g) : Below B w (W.setCells g o [x, y]) := (h.setCell (p := ⟨g, o, none⟩) hg x).setCell (p := ⟨g, o + 1, none⟩) hg y
/-- copy, as one step of a region that draws. -/
theorem step_copy_k {P : Program} {ops : Array Oper} {o : Oper} {a : Act} {w : World} {K : Act → World → Prop} {Q : Exit → Act → World → Prop} {E : Prop} (hg : o.guard = none) (d s : Operand) (dT sT elem : TypeId)
    (ho : o.op = .call { callee := .builtin .copy, args := #[d, s], argTypes := #[dT, sT] }) (hu : P.underlying dT = some (.slice elem)) {sz : Nat} (hsz : (P.info? elem).map (·.size) = some sz)
    (b off dLen dCap : Nat) (hd : a.eval d = .slice (some ⟨b, off, none⟩) dLen dCap) (ad : Addr) (sLen sCap : Nat) (hs : a.eval s = .slice (some ad) sLen sCap) (cs : List Value) (hn : cs.length = Nat.min sLen dLen * sz)
    (hsrc : ∀ j v, cs[j]? = some v → w.cell? (ad.add j) = some v) (hc : ∀ j, j < cs.length → (w.cell? ⟨b, off + j, none⟩).isSome = true) (hf : ∀ j, j < cs.length → w.frozen? ⟨b, off + j, none⟩ = false) (h1 : ∀ v ∈ cs, v.oneCell' = true)
    (hK : K (a.put o.dst (goInt (Nat.min sLen dLen))) (w.setCells b off cs)) :
    if Region.wanted o (yielded ops a.tmps) = true then Oper.wp P o a w K Q else E := by
  have hw : Region.wanted o (yielded ops a.tmps) = true := by simp [Region.wanted, hg]
  rw [if_pos hw]
  have hrun := run_copy_k (P := P) w dT sT o.type elem b off dLen dCap ad sLen sCap sz cs hu hsz hn hsrc hc hf h1
  unfold Oper.wp
  simp [execOp, ho, resolve, invoke, builtin, hd, hs, hrun, Result.andThen]
  exact hK
theorem repeat1_calls (b : Nat) (x y : Int) (w : World) (p0 : w.cell? ⟨b, 0, none⟩ = some (.int .i64 x)) (p1 : w.cell? ⟨b, 1, none⟩ = some (.int .i64 y)) :
    Calls Tryz.prog 101 #[.slice (some ⟨b, 0, none⟩) 1 1, .int .i64 1] w fun e w' => ∃ A, e = .returned (.slice A 1 1) ∧ Kd.C k25 w' A 1 [⟨x, y⟩] ∧ Below w.heap.size w w' := by
  have HM := Sd.mk (mul_one 1 (by omega) (by omega) w)
  have hmk := made2
  go_enter Tryz.func101, Tryz.ntmps101
  go_wp2_with fail
  refine HM.out.mono ?_
  rintro e w1 ⟨rfl, hb1⟩
  replace p0 := pw_cell_below (bal hb1 (.cells #[.int .i64 0, .int .i64 0] 25)) p0
  replace p1 := pw_cell_below (bal hb1 (.cells #[.int .i64 0, .int .i64 0] 25)) p1
  have HB := Sd.mk (bal hb1 (.cells #[.int .i64 0, .int .i64 0] 25))
  have X := Sd.mk (blk_new w1 (.cells #[.int .i64 0, .int .i64 0] 25))
  have HS := Sd.mk hb1.size
  clear hb1
  have HP := Sd.mk (And.intro p0 p1)
  clear p0 p1
  obtain ⟨W2, hcp, hX2, hb2⟩ : ∃ W2, (Builtin.copy_ #[47, 47] 3 #[.slice (some ⟨w1.heap.size, 0, none⟩) 1 1, .slice (some ⟨b, 0, none⟩) 1 1]).run Tryz.prog (w1.alloc (.cells #[.int .i64 0, .int .i64 0] 25)) = .ok (goInt 1) W2 ∧ W2.heap[w1.heap.size]? = some (.cells #[.int .i64 x, .int .i64 y] 25 (0, 0)) ∧ Below w.heap.size w W2 := by
    refine ⟨_, run_copy_k _ _ _ _ 25 w1.heap.size 0 1 1 ⟨b, 0, none⟩ 1 1 2 [.int .i64 x, .int .i64 y] Tryz.underlying47 (info_size info25) rfl ?_ ?_ ?_ ?_, set2_2 X.out, below_set2 HB.out HS.out⟩
    · intro j v hj
      rw [add_at, Nat.zero_add]
      match j, hj with
      | 0, hj => injection hj with hj; subst hj; exact HP.out.1
      | 1, hj => injection hj with hj; subst hj; exact HP.out.2
      | j + 2, hj => simp at hj
    · intro j hj
      rw [Nat.zero_add, blk_cell X.out j]
      match j, hj with
      | 0, _ => rfl
      | 1, _ => rfl
      | j + 2, hj => exact absurd (show j + 2 < 2 from hj) (by omega)
    · intro j hj
      exact blk_frozen X.out _
    · intro v hv
      simp only [List.mem_cons, List.not_mem_nil, or_false] at hv
      rcases hv with rfl | rfl <;> rfl
  have HX2 := Sd.mk hX2
  have HB2 := Sd.mk hb2
  clear hX2 hb2 HP X
  go_wp2
  go_loopg [8] 0 (fun kq v8 w' => v8 = .int .i64 1 ∧ w' = W2)
  case atStart => exact ⟨rfl, rfl⟩
  case round =>
    obtain ⟨rfl, rfl⟩ := hrel
    go_wp2
    go_ret
    exact ⟨_, rfl, row2 HX2.out, HB2.out⟩
theorem repeat2_calls (b : Nat) (x y : Int) (w : World) (p0 : w.cell? ⟨b, 0, none⟩ = some (.int .i64 x)) (p1 : w.cell? ⟨b, 1, none⟩ = some (.int .i64 y)) :
    Calls Tryz.prog 101 #[.slice (some ⟨b, 0, none⟩) 1 1, .int .i64 2] w fun e w' => ∃ A, e = .returned (.slice A 2 2) ∧ Kd.C k25 w' A 2 [⟨x, y⟩, ⟨x, y⟩] ∧ Below w.heap.size w w' := by
  have HM := Sd.mk (mul_one 2 (by omega) (by omega) w)
  have hmk := made4
  go_enter Tryz.func101, Tryz.ntmps101
  go_wp2_with fail
  refine HM.out.mono ?_
  rintro e w1 ⟨rfl, hb1⟩
  replace p0 := pw_cell_below (bal hb1 (.cells #[.int .i64 0, .int .i64 0, .int .i64 0, .int .i64 0] 25)) p0
  replace p1 := pw_cell_below (bal hb1 (.cells #[.int .i64 0, .int .i64 0, .int .i64 0, .int .i64 0] 25)) p1
  have HB := Sd.mk (bal hb1 (.cells #[.int .i64 0, .int .i64 0, .int .i64 0, .int .i64 0] 25))
  have X := Sd.mk (blk_new w1 (.cells #[.int .i64 0, .int .i64 0, .int .i64 0, .int .i64 0] 25))
  have HS := Sd.mk hb1.size
  clear hb1
  have HP := Sd.mk (And.intro p0 p1)
  clear p0 p1
  obtain ⟨W2, hcp, hX2, hb2⟩ : ∃ W2, (Builtin.copy_ #[47, 47] 3 #[.slice (some ⟨w1.heap.size, 0, none⟩) 2 2, .slice (some ⟨b, 0, none⟩) 1 1]).run Tryz.prog (w1.alloc (.cells #[.int .i64 0, .int .i64 0, .int .i64 0, .int .i64 0] 25)) = .ok (goInt 1) W2 ∧ W2.heap[w1.heap.size]? = some (.cells #[.int .i64 x, .int .i64 y, .int .i64 0, .int .i64 0] 25 (0, 0)) ∧ Below w.heap.size w W2 := by
    refine ⟨_, run_copy_k _ _ _ _ 25 w1.heap.size 0 2 2 ⟨b, 0, none⟩ 1 1 2 [.int .i64 x, .int .i64 y] Tryz.underlying47 (info_size info25) rfl ?_ ?_ ?_ ?_, set2_0 X.out, below_set2 HB.out HS.out⟩
    · intro j v hj
      rw [add_at, Nat.zero_add]
      match j, hj with
      | 0, hj => injection hj with hj; subst hj; exact HP.out.1
      | 1, hj => injection hj with hj; subst hj; exact HP.out.2
      | j + 2, hj => simp at hj
    · intro j hj
      rw [Nat.zero_add, blk_cell X.out j]
      match j, hj with
      | 0, _ => rfl
      | 1, _ => rfl
      | j + 2, hj => exact absurd (show j + 2 < 2 from hj) (by omega)
    · intro j hj
      exact blk_frozen X.out _
    · intro v hv
      simp only [List.mem_cons, List.not_mem_nil, or_false] at hv
      rcases hv with rfl | rfl <;> rfl
  have HX2 := Sd.mk hX2
  have HB2 := Sd.mk hb2
  clear hX2 hb2 HP X
  go_wp2
  go_loopw [8] (fun v8 wr => (v8 = .int .i64 1 ∧ wr = W2) ∨ (v8 = .int .i64 2 ∧ wr.heap[w1.heap.size]? = some (.cells #[.int .i64 x, .int .i64 y, .int .i64 x, .int .i64 y] 25 (0, 0)) ∧ Below w.heap.size w wr)) (fun v8 _ => 2 - (intOf v8).toNat)
  case atStart => exact .inl ⟨rfl, rfl⟩
  case round =>
    rcases hrel with ⟨rfl, rfl⟩ | ⟨rfl, hx, hb⟩
    · have HX3 := Sd.mk (fun n => blk_drewN HX2.out n)
      clear hcp hmk
      have hw2 : IntKind.i64.wrap 2 = 2 := by decide
      go_wp2_with fail
      go_region_law (refine step_copy_k rfl (.tmp 41) (.tmp 44) 47 47 25 rfl Tryz.underlying47 (info_size info25) w1.heap.size 2 1 1 (by go_simp) ⟨w1.heap.size, 0, none⟩ 1 2 (by go_simp) [.int .i64 x, .int .i64 y] rfl (fun j v hj => by
        rw [add_at, Nat.zero_add]
        match j, hj with
        | 0, hj => exact (blk_cell HX2.out 0).trans hj
        | 1, hj => exact (blk_cell HX2.out 1).trans hj
        | j + 2, hj => simp at hj) (fun j hj => by
        match j, hj with
        | 0, _ => exact (congrArg Option.isSome (blk_cell HX2.out 2)).trans rfl
        | 1, _ => exact (congrArg Option.isSome (blk_cell HX2.out 3)).trans rfl
        | j + 2, hj => exact absurd (show j + 2 < 2 from hj) (by omega)) (fun j _ => blk_frozen HX2.out _) (fun v hv => by
        simp only [List.mem_cons, List.not_mem_nil, or_false] at hv
        rcases hv with rfl | rfl <;> rfl) ?_)
      go_simp
      go_wp2
      go_roundw
      case rel => exact .inr ⟨rfl, set2_1 HX2.out, below_set2 (HB2.out.trans ((Below.refl _ wr).drew.mono HB2.out.size)) HS.out⟩
      case measure => simp [intOf]
    · have HX4 := Sd.mk hx
      have HB4 := Sd.mk hb
      clear hx hb hcp hmk
      go_wp2
      go_ret
      exact ⟨_, rfl, row4 HX4.out, HB4.out⟩
theorem num0_calls (w : World) : Calls Tryz.prog 76 #[.int .i64 0] w fun e w' => e = .returned (.agg #[.int .i64 1, .int .i64 0]) ∧ Below w.heap.size w w' := by
  exact v_Num.calls 0 1 0 w (num_is 0)
theorem knows1_calls (op : ByteArray) (w : World) : Calls Tryz.prog 62 #[.string op, .int .i64 1] w fun e w' => e = .returned (.bool (decide ((vDo op [(1, 0)]).2 = 0))) ∧ Below w.heap.size w w' := by
  rcases hr : vDo op [(1, 0)] with ⟨⟨r1, r2⟩, r3⟩
  have hD := fun (w1 : World) (A : Option Addr) (h : Kd.C k25 w1 A 1 [⟨1, 0⟩]) => v_Do.calls op A 1 [⟨1, 0⟩] r1 r2 r3 w1 h (Nat.le_refl _) (by show some ((vDo op [(1, 0)]).1.1, (vDo op [(1, 0)]).1.2, (vDo op [(1, 0)]).2) = _; rw [hr])
  have HD := Sd.mk hD
  clear hD hr
  go_enter Tryz.func62, Tryz.ntmps62
  go_wp2_with fail
  refine (num0_calls w).mono ?_
  rintro e w1 ⟨rfl, hb1⟩
  have X := blk_new w1 (.cells #[.int .i64 1, .int .i64 0] 25)
  have HR := Sd.mk (repeat1_calls w1.heap.size 1 0 _ ((blk_cell X 0).trans rfl) ((blk_cell X 1).trans rfl))
  have HB := Sd.mk (bal hb1 (.cells #[.int .i64 1, .int .i64 0] 25))
  clear X hb1
  go_wp2_with fail
  refine HR.out.mono ?_
  rintro e w2 ⟨A, rfl, hC, hb2⟩
  have HC := Sd.mk (HD.out w2 A hC)
  have HB2 := Sd.mk (HB.out.trans (hb2.mono HB.out.size))
  clear hC hb2
  go_wp2_with fail
  refine HC.out.mono ?_
  rintro e w3 ⟨rfl, hb3⟩
  have HB3 := Sd.mk (HB2.out.trans (hb3.mono HB2.out.size))
  clear hb3
  by_cases h0 : r3 = 0
  · subst h0
    go_wp2
    go_ret
    exact ⟨rfl, HB3.out.alloc HB3.out.size _⟩
  · have n0 : (r3 == 0) = false := by simpa using h0
    have HZ := Sd.mk (decide_eq_false h0)
    clear h0
    go_wp2
    go_ret
    exact ⟨by rw [HZ.out]; rfl, HB3.out.alloc HB3.out.size _⟩
theorem knows2_calls (op : ByteArray) (w : World) : Calls Tryz.prog 62 #[.string op, .int .i64 2] w fun e w' => e = .returned (.bool (decide ((vDo op [(1, 0), (1, 0)]).2 = 0))) ∧ Below w.heap.size w w' := by
  rcases hr : vDo op [(1, 0), (1, 0)] with ⟨⟨r1, r2⟩, r3⟩
  have hD := fun (w1 : World) (A : Option Addr) (h : Kd.C k25 w1 A 2 [⟨1, 0⟩, ⟨1, 0⟩]) => v_Do.calls op A 2 [⟨1, 0⟩, ⟨1, 0⟩] r1 r2 r3 w1 h (Nat.le_refl _) (by show some ((vDo op [(1, 0), (1, 0)]).1.1, (vDo op [(1, 0), (1, 0)]).1.2, (vDo op [(1, 0), (1, 0)]).2) = _; rw [hr])
  have HD := Sd.mk hD
  clear hD hr
  go_enter Tryz.func62, Tryz.ntmps62
  go_wp2_with fail
  refine (num0_calls w).mono ?_
  rintro e w1 ⟨rfl, hb1⟩
  have X := blk_new w1 (.cells #[.int .i64 1, .int .i64 0] 25)
  have HR := Sd.mk (repeat2_calls w1.heap.size 1 0 _ ((blk_cell X 0).trans rfl) ((blk_cell X 1).trans rfl))
  have HB := Sd.mk (bal hb1 (.cells #[.int .i64 1, .int .i64 0] 25))
  clear X hb1
  go_wp2_with fail
  refine HR.out.mono ?_
  rintro e w2 ⟨A, rfl, hC, hb2⟩
  have HC := Sd.mk (HD.out w2 A hC)
  have HB2 := Sd.mk (HB.out.trans (hb2.mono HB.out.size))
  clear hC hb2
  go_wp2_with fail
  refine HC.out.mono ?_
  rintro e w3 ⟨rfl, hb3⟩
  have HB3 := Sd.mk (HB2.out.trans (hb3.mono HB2.out.size))
  clear hb3
  by_cases h0 : r3 = 0
  · subst h0
    go_wp2
    go_ret
    exact ⟨rfl, HB3.out.alloc HB3.out.size _⟩
  · have n0 : (r3 == 0) = false := by simpa using h0
    have HZ := Sd.mk (decide_eq_false h0)
    clear h0
    go_wp2
    go_ret
    exact ⟨by rw [HZ.out]; rfl, HB3.out.alloc HB3.out.size _⟩
def hLast : List UInt8 := [108, 97, 115, 116]
def hMin : List UInt8 := [109, 105, 110]
def hMax : List UInt8 := [109, 97, 120]
def hSum : List UInt8 := [115, 117, 109]
def hCount : List UInt8 := [99, 111, 117, 110, 116]
def hows : List ByteArray := [⟨#[108, 97, 115, 116]⟩, ⟨#[109, 105, 110]⟩, ⟨#[109, 97, 120]⟩, ⟨#[115, 117, 109]⟩, ⟨#[109, 101, 97, 110]⟩, ⟨#[99, 111, 117, 110, 116]⟩]
def howOk (h : ByteArray) : Bool := hows.any fun x => decide (h.toList = x.toList)
def badP (x : Pt) : Bool := !decide (isV (valP x))
def keepP (strict : Bool) (l : List Pt) : List Pt := if strict = true then l else l.filter fun x => !oddP x
/-- What points become, once they are known to be values. -/
def vRed (how : List UInt8) (p : List Pt) : V × Int :=
  if how = hCount then (vNum (1000 * (p.length : Int)), 0) else match p with
  | [] => ((2, 0), 0)
  | x :: p' => if how = hLast then (valP (lastOf cmpAt x p'), 0) else if p.any oddP = true then ((3, 0), 0) else if how = hMin then (bestGo ⟨#[60]⟩ (valP x) p, 0) else if how = hMax then (bestGo ⟨#[62]⟩ (valP x) p, 0) else if how = hSum then (totalGo (valP x) p', 0) else vDo ⟨#[47]⟩ [totalGo (valP x) p', vNum (1000 * (p.length : Int))]
def vReduce (how : ByteArray) (strict : Bool) (l : List Pt) : V × Int := if howOk how = true then (if 2000 < l.length then ((0, 0), 6) else if l.any badP = true then ((0, 0), 80) else vRed how.toList (keepP strict l)) else ((0, 0), 100)
/-- slices.Contains at a row of texts. -/
theorem strs_loop (l : List ByteArray) (hl : l.length < 4611686018427387904) (a : ByteArray) : ∀ (d i : Nat), i + d = l.length → Ev (fun k => B.slices_Index_string_string.l0 k l a (l.length : Int) (i : Int)) (if (l.drop i).any (fun x => decide (a.toList = x.toList)) = true then ((i + (l.drop i).findIdx (fun x => decide (a.toList = x.toList)) : Nat) : Int) else -1)
  | 0, i, h => by
    have e1 : l.drop i = [] := List.drop_of_length_le (by omega)
    rw [e1]
    refine Ev.step (f := fun _ => some (-1)) (fun k => ?_) (Ev.now _)
    simp only [B.slices_Index_string_string.l0]
    rw [if_neg (by omega)]
  | d + 1, i, h => by
    have hi : i < l.length := by omega
    have el : l.drop i = l[i] :: l.drop (i + 1) := List.drop_eq_getElem_cons hi
    have er : rdOf ByteArray.empty l (i : Int) = l[i] := by unfold rdOf; rw [Int.toNat_natCast, List.getD_eq_getElem?_getD, List.getElem?_eq_getElem hi]; rfl
    rw [el, List.any_cons, List.findIdx_cons]
    by_cases e : a.toList = l[i].toList
    · rw [decide_eq_true e, Bool.true_or, if_pos rfl]
      refine Ev.step (f := fun _ => some (i : Int)) (fun k => ?_) (Ev.now _)
      simp only [B.slices_Index_string_string.l0]
      rw [if_pos (by omega), if_pos (by omega), if_pos (by omega), er, if_pos e]
    · rw [decide_eq_false e, Bool.false_or]
      have ih := strs_loop l hl a d (i + 1) (by omega)
      refine Ev.step (f := fun k => B.slices_Index_string_string.l0 k l a (l.length : Int) ((i + 1 : Nat) : Int)) (fun k => ?_) ?_
      · simp only [B.slices_Index_string_string.l0]
        rw [if_pos (by omega), if_pos (by omega), if_pos (by omega), er, if_neg e, wrap_nat (by omega)]
      · have e2 : ((i + 1 + (l.drop (i + 1)).findIdx (fun x => decide (a.toList = x.toList)) : Nat) : Int) = ((i + ((l.drop (i + 1)).findIdx (fun x => decide (a.toList = x.toList)) + 1) : Nat) : Int) := by omega
        rw [e2] at ih
        exact ih
theorem strs_ev (l : List ByteArray) (hl : l.length < 4611686018427387904) (a : ByteArray) : Ev (fun k => B.slices_Contains_string_string.f k l a) (l.any fun x => decide (a.toList = x.toList)) := by
  have h := strs_loop l hl a l.length 0 (by omega)
  rw [List.drop_zero] at h
  unfold B.slices_Contains_string_string.f
  refine Ev.bind (f := fun k t => some (decide (t ≥ 0))) h ?_
  refine Ev.congr (f := fun _ => some (l.any fun x => decide (a.toList = x.toList))) (fun k => ?_) (Ev.now _)
  congr 1
  cases l.any fun x => decide (a.toList = x.toList) with
  | true => rw [if_pos rfl]; simp
  | false => rw [if_neg (by simp)]; rfl
theorem fresh_S (w : World) (xs : List ByteArray) (hx : xs.length ≤ 9223372036854775807) : Kd.C Kd.string (w.alloc (.cells (xs.map Value.string).toArray 9)) (some ⟨w.heap.size, 0, none⟩) xs.length xs := by
  have r := blk_new w (.cells (xs.map Value.string).toArray 9)
  refine ⟨rfl, hx, fun _ => ⟨_, rfl, fun j p hp => ⟨[.string p], rfl, rfl, fun i u hu => ?_⟩⟩⟩
  match i, hu with
  | 0, hu =>
    rw [Kd.string] at *
    rw [add_at, Nat.zero_add]
    have e := blk_cell r (j * 1 + 0)
    refine Eq.trans (Eq.trans ?_ e) ?_
    · rfl
    · rw [Nat.mul_one, Nat.add_zero]
      simp only [List.getElem?_toArray, List.getElem?_map, hp]
      simpa using hu
  | i + 1, hu => simp at hu
theorem howOk_calls (how : ByteArray) (w : World) : Calls Tryz.prog 30 #[.slice (some ⟨w.heap.size, 0, none⟩) 6 6, .string how] (w.alloc (.cells #[.string ⟨#[108, 97, 115, 116]⟩, .string ⟨#[109, 105, 110]⟩, .string ⟨#[109, 97, 120]⟩, .string ⟨#[115, 117, 109]⟩, .string ⟨#[109, 101, 97, 110]⟩, .string ⟨#[99, 111, 117, 110, 116]⟩] 9)) fun e w' => e = .returned (.bool (howOk how)) ∧ Below w.heap.size w w' := by
  obtain ⟨k, hk⟩ := (strs_ev hows (by decide) how).rounds
  refine (B.slices_Contains_string_string.calls k _ 6 hows how _ _ (fresh_S w hows (by decide)) (by decide) hk).mono fun e w' ⟨he, hw⟩ => ⟨he, ?_⟩
  obtain ⟨n, rfl⟩ := hw
  exact pbd (below1 w _) n
theorem red1_calls (x : Pt) (w : World) : Calls Tryz.prog 32 #[.agg #[.int .i64 x.f0, .int .i64 x.f1.f0, .int .i64 x.f1.f1]] w fun e w' => e = .returned (.bool (badP x)) ∧ Below w.heap.size w w' := by
  have hb := below1 w (.cells #[.int .i64 x.f0, .int .i64 x.f1.f0, .int .i64 x.f1.f1] 39)
  have HC := Sd.mk (check1_fresh x.f1.f0 x.f1.f1 (w.alloc (.cells #[.int .i64 x.f0, .int .i64 x.f1.f0, .int .i64 x.f1.f1] 39)))
  have HB := Sd.mk hb
  simp only [World.size_alloc] at HC
  unfold badP valP
  clear hb
  by_cases h : isV (x.f1.f0, x.f1.f1)
  · rw [if_pos h] at HC
    rw [decide_eq_true h]
    clear h
    go_enter Tryz.func32, Tryz.ntmps32
    go_wp2_with (go_at_call 33; refine HC.out.mono ?_; rintro e w1 ⟨rfl, hb1⟩; have HE := Sd.mk (HB.out.trans (hb1.mono (by omega))); clear hb1)
    go_ret
    exact ⟨rfl, HE.out⟩
  · rw [if_neg h] at HC
    rw [decide_eq_false h]
    clear h
    go_enter Tryz.func32, Tryz.ntmps32
    go_wp2_with (go_at_call 33; refine HC.out.mono ?_; rintro e w1 ⟨rfl, hb1⟩; have HE := Sd.mk (HB.out.trans (hb1.mono (by omega))); clear hb1)
    go_ret
    exact ⟨rfl, HE.out⟩
theorem many_calls (A : Option Addr) (c : Nat) (p : List Pt) (w : World) (hr : Kd.C k39 w A p.length p) (hc : p.length ≤ c) (hm : p.length < 9223372036854775) :
    Calls Tryz.prog 38 #[.slice A p.length c] w fun e w' => e = .returned (.agg #[.int .i64 (vNum (1000 * (p.length : Int))).1, .int .i64 (vNum (1000 * (p.length : Int))).2]) ∧ Below w.heap.size w w' :=
  s_many.calls A c p _ _ w hr hc (by unfold s_many.f; rw [show wrap64 (1000 * (p.length : Int)) = 1000 * (p.length : Int) by unfold wrap64; omega, num_is]; rfl)
theorem best_at (op : ByteArray) (A : Option Addr) (c : Nat) {p : List Pt} {x : Pt} {p' : List Pt} (hp : p = x :: p') (w : World) (hr : Kd.C k39 w A p.length p) :
    Calls Tryz.prog 43 #[.slice A p.length c, .string op] w fun e w' => e = .returned (.agg #[.int .i64 (bestGo op (valP x) p).1, .int .i64 (bestGo op (valP x) p).2]) ∧ Below w.heap.size w w' := by
  subst hp; exact best_calls op A c x p' w hr
theorem total_at (A : Option Addr) (c : Nat) {p : List Pt} {x : Pt} {p' : List Pt} (hp : p = x :: p') (w : World) (hr : Kd.C k39 w A p.length p) (hc : p.length ≤ c) :
    Calls Tryz.prog 44 #[.slice A p.length c] w fun e w' => e = .returned (.agg #[.int .i64 (totalGo (valP x) p').1, .int .i64 (totalGo (valP x) p').2]) ∧ Below w.heap.size w w' := by
  subst hp; exact total_calls A c x p' w hr hc
theorem last_at (A : Option Addr) (c : Nat) {p : List Pt} {x : Pt} {p' : List Pt} (hp : p = x :: p') (hl : p.length * 24 ≤ 140737488355328) (w : World) (hr : Kd.C k39 w A p.length p) :
    Calls Tryz.prog 40 #[.slice A p.length c] w fun e w' => e = .returned (.agg #[.int .i64 (valP (lastOf cmpAt x p')).1, .int .i64 (valP (lastOf cmpAt x p')).2]) ∧ Below w.heap.size w w' := by
  subst hp; exact last_calls A c x p' hl w hr
theorem vRed_count {how : List UInt8} {p : List Pt} (h : how = hCount) : vRed how p = (vNum (1000 * (p.length : Int)), 0) := by
  unfold vRed; rw [if_pos h]
theorem vRed_nil {how : List UInt8} {p : List Pt} (h : ¬ how = hCount) (hp : p = []) : vRed how p = ((2, 0), 0) := by
  subst hp; unfold vRed; rw [if_neg h]
theorem vRed_cons {how : List UInt8} {p : List Pt} {x : Pt} {p' : List Pt} (h : ¬ how = hCount) (hp : p = x :: p') : vRed how p = if how = hLast then (valP (lastOf cmpAt x p'), 0) else if p.any oddP = true then ((3, 0), 0) else if how = hMin then (bestGo ⟨#[60]⟩ (valP x) p, 0) else if how = hMax then (bestGo ⟨#[62]⟩ (valP x) p, 0) else if how = hSum then (totalGo (valP x) p', 0) else vDo ⟨#[47]⟩ [totalGo (valP x) p', vNum (1000 * (p.length : Int))] := by
  subst hp; unfold vRed; rw [if_neg h]
theorem reduce_calls (how : ByteArray) (strict : Bool) (A : Option Addr) (c : Nat) (l : List Pt) (hl : l.length * 24 ≤ 140737488355328) (w : World) (hr : Kd.C k39 w A l.length l) (hc : l.length ≤ c) :
    Calls Tryz.prog 10 #[.string how, .bool strict, .slice A l.length c] w fun e w' => e = .returned (.tuple #[.agg #[.int .i64 (vReduce how strict l).1.1, .int .i64 (vReduce how strict l).1.2], .int .i64 (vReduce how strict l).2]) ∧ Below w.heap.size w w' := by
  generalize hrr : vReduce how strict l = r
  have HRR := Sd.mk hrr
  clear hrr
  have hb0 := below1 w (.cells #[.int .i64 0, .int .i64 0] 25)
  have X0 := Sd.mk (blk_new w (.cells #[.int .i64 0, .int .i64 0] 25))
  have HB0 := Sd.mk hb0
  have HH := Sd.mk (howOk_calls how (w.alloc (.cells #[.int .i64 0, .int .i64 0] 25)))
  have HR := Sd.mk hr
  have HL24 := Sd.mk hl
  have HL := Sd.mk hl
  have HC := Sd.mk hc
  have hmx : l.length < 6000000000000 := by omega
  have eg1 : ∀ args w, (callFunc 32 args).run Tryz.prog w = .ok (.enter 32 args) w := enters_of Tryz.func32 (by kernel_rfl) rfl
  have eg3 : ∀ args w, (callFunc 41 args).run Tryz.prog w = .ok (.enter 41 args) w := enters_of Tryz.func41 (by kernel_rfl) rfl
  have HBad := Sd.mk (fun (w1 : World) (hb : Below w.heap.size w w1) => containsPoint badP 32 #[] eg1 A c l w1 (Kd.C_below hr hb) (fun x hx w1 cs _ hK => by obtain rfl := k39_open hK; exact red1_calls x w1))
  have HOdd := Sd.mk (fun (p : List Pt) (A1 : Option Addr) (c1 : Nat) (w1 : World) (h : Kd.C k39 w1 A1 p.length p) => containsPoint oddP 41 #[] eg3 A1 c1 p w1 h (fun x hx w1 cs _ hK => by obtain rfl := k39_open hK; exact odd3_calls x w1))
  simp only [World.size_alloc] at HH
  unfold vReduce at HRR
  generalize howOk how = hk at HH HRR
  generalize hbad : l.any badP = bad at HBad HRR
  clear hb0 hr hl hc eg1 eg3 hbad
  have mixed : Tryz.prog.follows .mixedOrders = true := by kernel_rfl
  cases hk with
  | false =>
    have HZ := Sd.mk (HRR.out.symm.trans (if_neg (by simp)))
    go_enter Tryz.func10, Tryz.ntmps10
    go_wp2_with fail
    refine HH.out.mono ?_
    rintro e w1 ⟨rfl, hb1⟩
    have hb2 : Below (w.alloc (.cells #[.int .i64 0, .int .i64 0] 25)).heap.size (w.alloc (.cells #[.int .i64 0, .int .i64 0] 25)) w1 := hb1.mono (by simp)
    have HB1 := Sd.mk (HB0.out.trans (hb2.mono HB0.out.size))
    have K1 := Sd.mk (blk_below X0.out hb2)
    clear hb1 hb2
    have d0 := (blk_cell K1.out 0).trans rfl
    have d1 := (blk_cell K1.out 1).trans rfl
    have f0 := blk_frozen K1.out 0
    have f1 := blk_frozen K1.out 1
    go_wp2
    exact bodyPost_ret (v := .tuple #[.agg #[.int .i64 0, .int .i64 0], .int .i64 100]) (by simp [results, Tryz.results10, go_sem, d0, d1]) rfl ⟨by rw [HZ.out], (HB1.out.setCell (by simp) _).setCell (by simp) _⟩
  | true =>
    by_cases h2000 : 2000 < l.length
    · have HZ := Sd.mk (HRR.out.symm.trans ((if_pos rfl).trans (if_pos h2000)))
      have b1 : decide ((l.length : Int) > 2000) = true := decide_eq_true (by omega)
      have b2 : decide (2000 < l.length) = true := decide_eq_true h2000
      clear h2000
      go_enter Tryz.func10, Tryz.ntmps10
      go_wp2_with fail
      refine HH.out.mono ?_
      rintro e w1 ⟨rfl, hb1⟩
      have hb2 : Below (w.alloc (.cells #[.int .i64 0, .int .i64 0] 25)).heap.size (w.alloc (.cells #[.int .i64 0, .int .i64 0] 25)) w1 := hb1.mono (by simp)
      have HB1 := Sd.mk (HB0.out.trans (hb2.mono HB0.out.size))
      have K1 := Sd.mk (blk_below X0.out hb2)
      clear hb1 hb2
      have d0 := (blk_cell K1.out 0).trans rfl
      have d1 := (blk_cell K1.out 1).trans rfl
      have f0 := blk_frozen K1.out 0
      have f1 := blk_frozen K1.out 1
      go_wp2
      exact bodyPost_ret (v := .tuple #[.agg #[.int .i64 0, .int .i64 0], .int .i64 6]) (by simp [results, Tryz.results10, go_sem, d0, d1]) rfl ⟨by rw [HZ.out], (HB1.out.setCell (by simp) _).setCell (by simp) _⟩
    · have b1 : decide ((l.length : Int) > 2000) = false := decide_eq_false (by omega)
      have b2 : decide (2000 < l.length) = false := decide_eq_false h2000
      cases bad with
      | true =>
        have HZ := Sd.mk (HRR.out.symm.trans ((if_pos rfl).trans ((if_neg h2000).trans (if_pos rfl))))
        clear h2000
        go_enter Tryz.func10, Tryz.ntmps10
        go_wp2_with fail
        refine HH.out.mono ?_
        rintro e w1 ⟨rfl, hb0⟩
        have hb1 : Below (w.alloc (.cells #[.int .i64 0, .int .i64 0] 25)).heap.size (w.alloc (.cells #[.int .i64 0, .int .i64 0] 25)) w1 := hb0.mono (by simp)
        have HB1 := Sd.mk (HB0.out.trans (hb1.mono HB0.out.size))
        clear hb0
        have HC1 := Sd.mk (HBad.out w1 HB1.out)
        have K1 := Sd.mk (blk_below X0.out hb1)
        clear hb1
        go_wp2_with fail
        refine HC1.out.mono ?_
        rintro e w2 ⟨rfl, hb2⟩
        have HB2 := Sd.mk (HB1.out.trans (hb2.mono HB1.out.size))
        have K2 := Sd.mk (blk_below K1.out hb2)
        clear hb2 HC1 HH HBad
        have d0 := (blk_cell K2.out 0).trans rfl
        have d1 := (blk_cell K2.out 1).trans rfl
        have f0 := blk_frozen K2.out 0
        have f1 := blk_frozen K2.out 1
        go_wp2
        exact bodyPost_ret (v := .tuple #[.agg #[.int .i64 0, .int .i64 0], .int .i64 80]) (by simp [results, Tryz.results10, go_sem, d0, d1]) rfl ⟨by rw [HZ.out], (HB2.out.setCell (by simp) _).setCell (by simp) _⟩
      | false =>
        have HZ0 := Sd.mk (HRR.out.symm.trans ((if_pos rfl).trans ((if_neg h2000).trans (if_neg (by simp)))))
        clear h2000
        cases strict with
        | true =>
          have HZ := Sd.mk (HZ0.out.trans (congrArg (vRed how.toList) (show keepP true l = l from if_pos rfl)))
          clear HZ0
          go_enter Tryz.func10, Tryz.ntmps10
          go_wp2_with fail
          refine HH.out.mono ?_
          rintro e w1 ⟨rfl, hb0⟩
          have hb1 : Below (w.alloc (.cells #[.int .i64 0, .int .i64 0] 25)).heap.size (w.alloc (.cells #[.int .i64 0, .int .i64 0] 25)) w1 := hb0.mono (by simp)
          have HB1 := Sd.mk (HB0.out.trans (hb1.mono HB0.out.size))
          clear hb0
          have HC1 := Sd.mk (HBad.out w1 HB1.out)
          have K1 := Sd.mk (blk_below X0.out hb1)
          clear hb1
          go_wp2_with fail
          refine HC1.out.mono ?_
          rintro e w2 ⟨rfl, hb2⟩
          have HB2 := Sd.mk (HB1.out.trans (hb2.mono HB1.out.size))
          have K2 := Sd.mk (blk_below K1.out hb2)
          clear hb2 HC1 HH HBad
          have HCp := Sd.mk (Kd.C_below HR.out HB2.out)
          have Hcp := HC
          have hp4 : l.length < 9223372036854775 := by omega
          cases hq1 : (how.toList == [99, 111, 117, 110, 116]) with
          | true =>
            have HZ2 := Sd.mk (HZ.out.trans (vRed_count (eq_of_beq hq1)))
            have HMy := Sd.mk (many_calls A c l w2 HCp.out Hcp.out hp4)
            generalize vNum (1000 * (l.length : Int)) = nm at HZ2 HMy
            obtain ⟨r1, r2⟩ := nm
            simp only at HMy
            go_wp2_with fail
            refine HMy.out.mono ?_
            rintro e w9 ⟨rfl, hb9⟩
            have KX := Sd.mk (blk_below K2.out hb9)
            have HWX := Sd.mk (HB2.out.trans (hb9.mono HB2.out.size))
            clear hb9
            have d0 := (blk_cell KX.out 0).trans rfl
            have d1 := (blk_cell KX.out 1).trans rfl
            have f0 := blk_frozen KX.out 0
            have f1 := blk_frozen KX.out 1
            go_wp2
            exact bodyPost_ret (v := .tuple #[.agg #[.int .i64 r1, .int .i64 r2], .int .i64 0]) (by simp [results, Tryz.results10, go_sem, d0, d1]) rfl ⟨by rw [HZ2.out], (HWX.out.setCell (by simp) _).setCell (by simp) _⟩
          | false =>
            have hne1 : ¬ how.toList = hCount := fun e => by rw [e] at hq1; exact absurd hq1 (by decide)
            have HN1 := Sd.mk hne1
            clear hne1
            cases hq2 : ((l.length : Int) == 0) with
            | true =>
              have hnil : l = [] := List.eq_nil_of_length_eq_zero (by simpa using hq2)
              have HZ2 := Sd.mk (HZ.out.trans (vRed_nil HN1.out hnil))
              clear hnil
              go_wp2_with fail
              refine (v_Null.calls 2 0 _ rfl).mono ?_
              rintro e w9 ⟨rfl, hb9⟩
              have KX := Sd.mk (blk_below K2.out hb9)
              have HWX := Sd.mk (HB2.out.trans (hb9.mono HB2.out.size))
              clear hb9
              have d0 := (blk_cell KX.out 0).trans rfl
              have d1 := (blk_cell KX.out 1).trans rfl
              have f0 := blk_frozen KX.out 0
              have f1 := blk_frozen KX.out 1
              go_wp2
              exact bodyPost_ret (v := .tuple #[.agg #[.int .i64 2, .int .i64 0], .int .i64 0]) (by simp [results, Tryz.results10, go_sem, d0, d1]) rfl ⟨by rw [HZ2.out], (HWX.out.setCell (by simp) _).setCell (by simp) _⟩
            | false =>
              obtain ⟨x, p', hp⟩ : ∃ x p', l = x :: p' := by
                cases hh : l with
                | nil => rw [hh] at hq2; exact absurd hq2 (by decide)
                | cons x p' => exact ⟨x, p', rfl⟩
              have HP := Sd.mk hp
              clear hp
              have HZ1 := Sd.mk (HZ.out.trans (vRed_cons HN1.out HP.out))
              cases hq3 : (how.toList == [108, 97, 115, 116]) with
              | true =>
                have HZ2 := Sd.mk (HZ1.out.trans (if_pos (eq_of_beq hq3)))
                have HMy := Sd.mk (last_at A c HP.out (by have := HL24.out; omega) w2 HCp.out)
                generalize valP (lastOf cmpAt x p') = nm at HZ2 HMy
                obtain ⟨r1, r2⟩ := nm
                simp only at HMy
                go_wp2_with fail
                refine HMy.out.mono ?_
                rintro e w9 ⟨rfl, hb9⟩
                have KX := Sd.mk (blk_below K2.out hb9)
                have HWX := Sd.mk (HB2.out.trans (hb9.mono HB2.out.size))
                clear hb9
                have d0 := (blk_cell KX.out 0).trans rfl
                have d1 := (blk_cell KX.out 1).trans rfl
                have f0 := blk_frozen KX.out 0
                have f1 := blk_frozen KX.out 1
                go_wp2
                exact bodyPost_ret (v := .tuple #[.agg #[.int .i64 r1, .int .i64 r2], .int .i64 0]) (by simp [results, Tryz.results10, go_sem, d0, d1]) rfl ⟨by rw [HZ2.out], (HWX.out.setCell (by simp) _).setCell (by simp) _⟩
              | false =>
                have hne3 : ¬ how.toList = hLast := fun e => by rw [e] at hq3; exact absurd hq3 (by decide)
                have HZ3 := Sd.mk (HZ1.out.trans (if_neg hne3))
                have HOd := Sd.mk (HOdd.out l A c w2 HCp.out)
                clear hne3
                generalize l.any oddP = od at HZ3 HOd
                cases od with
                | true =>
                  have HZ2 := Sd.mk (HZ3.out.trans (if_pos rfl))
                  go_wp2_with fail
                  refine HOd.out.mono ?_
                  rintro e w8 ⟨rfl, hb8⟩
                  have K8 := Sd.mk (blk_below K2.out hb8)
                  have HB8 := Sd.mk (HB2.out.trans (hb8.mono HB2.out.size))
                  clear hb8
                  go_wp2_with fail
                  refine (v_NaN.calls 3 0 _ rfl).mono ?_
                  rintro e w9 ⟨rfl, hb9⟩
                  have KX := Sd.mk (blk_below K8.out hb9)
                  have HWX := Sd.mk (HB8.out.trans (hb9.mono HB8.out.size))
                  clear hb9
                  have d0 := (blk_cell KX.out 0).trans rfl
                  have d1 := (blk_cell KX.out 1).trans rfl
                  have f0 := blk_frozen KX.out 0
                  have f1 := blk_frozen KX.out 1
                  go_wp2
                  exact bodyPost_ret (v := .tuple #[.agg #[.int .i64 3, .int .i64 0], .int .i64 0]) (by simp [results, Tryz.results10, go_sem, d0, d1]) rfl ⟨by rw [HZ2.out], (HWX.out.setCell (by simp) _).setCell (by simp) _⟩
                | false =>
                  have HZ4 := Sd.mk (HZ3.out.trans (if_neg (by simp)))
                  have HB8f := Sd.mk HOd.out
                  cases hq4 : (how.toList == [109, 105, 110]) with
                  | true =>
                    have HZ5 := Sd.mk (HZ4.out.trans (if_pos (eq_of_beq hq4)))
                    go_wp2_with fail
                    refine HOd.out.mono ?_
                    rintro e w8 ⟨rfl, hb8⟩
                    have HCp8 := Sd.mk (Kd.C_below HCp.out hb8)
                    have K8 := Sd.mk (blk_below K2.out hb8)
                    have HB8 := Sd.mk (HB2.out.trans (hb8.mono HB2.out.size))
                    clear hb8
                    have HMy := Sd.mk (best_at ⟨#[60]⟩ A c HP.out w8 HCp8.out)
                    generalize hnm : bestGo ⟨#[60]⟩ (valP x) l = nm at HMy
                    have HZ2 := Sd.mk (HZ5.out.trans (congrArg (fun z : V => (z, (0 : Int))) hnm))
                    obtain ⟨r1, r2⟩ := nm
                    simp only at HMy
                    clear hnm
                    go_wp2_with fail
                    refine HMy.out.mono ?_
                    rintro e w9 ⟨rfl, hb9⟩
                    have KX := Sd.mk (blk_below K8.out hb9)
                    have HWX := Sd.mk (HB8.out.trans (hb9.mono HB8.out.size))
                    clear hb9
                    have d0 := (blk_cell KX.out 0).trans rfl
                    have d1 := (blk_cell KX.out 1).trans rfl
                    have f0 := blk_frozen KX.out 0
                    have f1 := blk_frozen KX.out 1
                    go_wp2
                    exact bodyPost_ret (v := .tuple #[.agg #[.int .i64 r1, .int .i64 r2], .int .i64 0]) (by simp [results, Tryz.results10, go_sem, d0, d1]) rfl ⟨by rw [HZ2.out], (HWX.out.setCell (by simp) _).setCell (by simp) _⟩
                  | false =>
                    have hne4 : ¬ how.toList = hMin := fun e => by rw [e] at hq4; exact absurd hq4 (by decide)
                    have HZ4b := Sd.mk (HZ4.out.trans (if_neg hne4))
                    clear hne4
                    cases hq5 : (how.toList == [109, 97, 120]) with
                    | true =>
                      have HZ5 := Sd.mk (HZ4b.out.trans (if_pos (eq_of_beq hq5)))
                      go_wp2_with fail
                      refine HOd.out.mono ?_
                      rintro e w8 ⟨rfl, hb8⟩
                      have HCp8 := Sd.mk (Kd.C_below HCp.out hb8)
                      have K8 := Sd.mk (blk_below K2.out hb8)
                      have HB8 := Sd.mk (HB2.out.trans (hb8.mono HB2.out.size))
                      clear hb8
                      have HMy := Sd.mk (best_at ⟨#[62]⟩ A c HP.out w8 HCp8.out)
                      generalize hnm : bestGo ⟨#[62]⟩ (valP x) l = nm at HMy
                      have HZ2 := Sd.mk (HZ5.out.trans (congrArg (fun z : V => (z, (0 : Int))) hnm))
                      obtain ⟨r1, r2⟩ := nm
                      simp only at HMy
                      clear hnm
                      go_wp2_with fail
                      refine HMy.out.mono ?_
                      rintro e w9 ⟨rfl, hb9⟩
                      have KX := Sd.mk (blk_below K8.out hb9)
                      have HWX := Sd.mk (HB8.out.trans (hb9.mono HB8.out.size))
                      clear hb9
                      have d0 := (blk_cell KX.out 0).trans rfl
                      have d1 := (blk_cell KX.out 1).trans rfl
                      have f0 := blk_frozen KX.out 0
                      have f1 := blk_frozen KX.out 1
                      go_wp2
                      exact bodyPost_ret (v := .tuple #[.agg #[.int .i64 r1, .int .i64 r2], .int .i64 0]) (by simp [results, Tryz.results10, go_sem, d0, d1]) rfl ⟨by rw [HZ2.out], (HWX.out.setCell (by simp) _).setCell (by simp) _⟩
                    | false =>
                      have hne5 : ¬ how.toList = hMax := fun e => by rw [e] at hq5; exact absurd hq5 (by decide)
                      have HZ4c := Sd.mk (HZ4b.out.trans (if_neg hne5))
                      clear hne5
                      cases hq6 : (how.toList == [115, 117, 109]) with
                      | true =>
                        have HZ5 := Sd.mk (HZ4c.out.trans (if_pos (eq_of_beq hq6)))
                        go_wp2_with fail
                        refine HOd.out.mono ?_
                        rintro e w8 ⟨rfl, hb8⟩
                        have HCp8 := Sd.mk (Kd.C_below HCp.out hb8)
                        have K8 := Sd.mk (blk_below K2.out hb8)
                        have HB8 := Sd.mk (HB2.out.trans (hb8.mono HB2.out.size))
                        clear hb8
                        have HMy := Sd.mk (total_at A c HP.out w8 HCp8.out Hcp.out)
                        generalize hnm : totalGo (valP x) p' = nm at HMy
                        have HZ2 := Sd.mk (HZ5.out.trans (congrArg (fun z : V => (z, (0 : Int))) hnm))
                        obtain ⟨r1, r2⟩ := nm
                        simp only at HMy
                        clear hnm
                        go_wp2_with fail
                        refine HMy.out.mono ?_
                        rintro e w9 ⟨rfl, hb9⟩
                        have KX := Sd.mk (blk_below K8.out hb9)
                        have HWX := Sd.mk (HB8.out.trans (hb9.mono HB8.out.size))
                        clear hb9
                        have d0 := (blk_cell KX.out 0).trans rfl
                        have d1 := (blk_cell KX.out 1).trans rfl
                        have f0 := blk_frozen KX.out 0
                        have f1 := blk_frozen KX.out 1
                        go_wp2
                        exact bodyPost_ret (v := .tuple #[.agg #[.int .i64 r1, .int .i64 r2], .int .i64 0]) (by simp [results, Tryz.results10, go_sem, d0, d1]) rfl ⟨by rw [HZ2.out], (HWX.out.setCell (by simp) _).setCell (by simp) _⟩
                      | false =>
                        have hne6 : ¬ how.toList = hSum := fun e => by rw [e] at hq6; exact absurd hq6 (by decide)
                        have HZ5 := Sd.mk (HZ4c.out.trans (if_neg hne6))
                        clear hne6
                        go_wp2_with fail
                        refine HOd.out.mono ?_
                        rintro e w8 ⟨rfl, hb8⟩
                        have HCp8 := Sd.mk (Kd.C_below HCp.out hb8)
                        have K8 := Sd.mk (blk_below K2.out hb8)
                        have HB8 := Sd.mk (HB2.out.trans (hb8.mono HB2.out.size))
                        clear hb8
                        have HMy := Sd.mk (total_at A c HP.out w8 HCp8.out Hcp.out)
                        have HMn := Sd.mk (fun (w9 : World) (h : Below w8.heap.size w8 w9) => many_calls A c l w9 (Kd.C_below HCp8.out h) Hcp.out hp4)
                        generalize totalGo (valP x) p' = nm at HMy HZ5
                        generalize vNum (1000 * (l.length : Int)) = nn at HMn HZ5
                        obtain ⟨t1, t2⟩ := nm
                        obtain ⟨n1, n2⟩ := nn
                        simp only at HMy HMn
                        rcases hdo : vDo ⟨#[47]⟩ [(t1, t2), (n1, n2)] with ⟨⟨r1, r2⟩, r3⟩
                        have HZ2 := Sd.mk (HZ5.out.trans hdo)
                        have HD := Sd.mk (fun w1 => do2_any ⟨#[47]⟩ t1 t2 n1 n2 w1 hdo)
                        clear hdo
                        go_wp2_with fail
                        refine HMy.out.mono ?_
                        rintro e w9 ⟨rfl, hb9⟩
                        have K9 := Sd.mk (blk_below K8.out hb9)
                        have HB9 := Sd.mk (HB8.out.trans (hb9.mono HB8.out.size))
                        have HM9 := Sd.mk (HMn.out w9 hb9)
                        clear hb9 HMn
                        go_wp2_with fail
                        refine HM9.out.mono ?_
                        rintro e w10 ⟨rfl, hb10⟩
                        have K10 := Sd.mk (blk_below K9.out hb10)
                        have HB10 := Sd.mk (HB9.out.trans (hb10.mono HB9.out.size))
                        clear hb10
                        go_wp2_with fail
                        refine (HD.out w10).mono ?_
                        rintro e w11 ⟨rfl, hb11⟩
                        have KX := Sd.mk (blk_below K10.out hb11)
                        have HWX := Sd.mk (HB10.out.trans (hb11.mono HB10.out.size))
                        clear hb11
                        have d0 := (blk_cell KX.out 0).trans rfl
                        have d1 := (blk_cell KX.out 1).trans rfl
                        have f0 := blk_frozen KX.out 0
                        have f1 := blk_frozen KX.out 1
                        go_wp2
                        exact bodyPost_ret (v := .tuple #[.agg #[.int .i64 r1, .int .i64 r2], .int .i64 r3]) (by simp [results, Tryz.results10, go_sem, d0, d1]) rfl ⟨by rw [HZ2.out], (HWX.out.setCell (by simp) _).setCell (by simp) _⟩
        | false =>
          have HZ1 := Sd.mk (HZ0.out.trans (congrArg (vRed how.toList) (show keepP false l = l.filter (fun x => !oddP x) from if_neg (by simp))))
          clear HZ0
          go_enter Tryz.func10, Tryz.ntmps10
          go_wp2_with fail
          refine HH.out.mono ?_
          rintro e w1 ⟨rfl, hb0⟩
          have hb1 : Below (w.alloc (.cells #[.int .i64 0, .int .i64 0] 25)).heap.size (w.alloc (.cells #[.int .i64 0, .int .i64 0] 25)) w1 := hb0.mono (by simp)
          have HB1 := Sd.mk (HB0.out.trans (hb1.mono HB0.out.size))
          clear hb0
          have HC1 := Sd.mk (HBad.out w1 HB1.out)
          have K1 := Sd.mk (blk_below X0.out hb1)
          clear hb1
          go_wp2_with fail
          refine HC1.out.mono ?_
          rintro e w2 ⟨rfl, hb2⟩
          have HB2 := Sd.mk (HB1.out.trans (hb2.mono HB1.out.size))
          have K2 := Sd.mk (blk_below K1.out hb2)
          clear hb2 HC1 HH HBad
          go_wp2_with fail
          refine (clonePoint A c l w2 (Kd.C_below HR.out HB2.out) HL.out).mono ?_
          rintro e w3 ⟨v3, rfl, hv3, hb3⟩
          have HDl := Sd.mk (deleteP_calls l v3 w2 w3 hv3 hb3)
          clear hv3 hb3
          go_wp2_with fail
          refine HDl.out.mono ?_
          rintro e w4 ⟨v4, rfl, hv4, hb4⟩
          have HB4 := Sd.mk (HB2.out.trans (hb4.mono HB2.out.size))
          have K4 := Sd.mk (blk_below K2.out hb4)
          have hpl : (l.filter (fun x => !oddP x)).length ≤ l.length := List.length_filter_le _ _
          obtain ⟨p, hpe⟩ : ∃ p, l.filter (fun x => !oddP x) = p := ⟨_, rfl⟩
          have HZ := Sd.mk (HZ1.out.trans (congrArg (vRed how.toList) hpe))
          rw [hpe] at hv4 hpl
          obtain ⟨A4, c4, rfl, hc4, hC4⟩ := Kd.R_reads hv4
          have HCp := Sd.mk hC4
          have Hcp := Sd.mk hc4
          clear hv4 hb4 hC4 hc4 hpe HDl HZ1 K2
          have hp4 : p.length < 9223372036854775 := by omega
          cases hq1 : (how.toList == [99, 111, 117, 110, 116]) with
          | true =>
            have HZ2 := Sd.mk (HZ.out.trans (vRed_count (eq_of_beq hq1)))
            have HMy := Sd.mk (many_calls A4 c4 p w4 HCp.out Hcp.out hp4)
            generalize vNum (1000 * (p.length : Int)) = nm at HZ2 HMy
            obtain ⟨r1, r2⟩ := nm
            simp only at HMy
            go_wp2_with fail
            refine HMy.out.mono ?_
            rintro e w9 ⟨rfl, hb9⟩
            have KX := Sd.mk (blk_below K4.out hb9)
            have HWX := Sd.mk (HB4.out.trans (hb9.mono HB4.out.size))
            clear hb9
            have d0 := (blk_cell KX.out 0).trans rfl
            have d1 := (blk_cell KX.out 1).trans rfl
            have f0 := blk_frozen KX.out 0
            have f1 := blk_frozen KX.out 1
            go_wp2
            exact bodyPost_ret (v := .tuple #[.agg #[.int .i64 r1, .int .i64 r2], .int .i64 0]) (by simp [results, Tryz.results10, go_sem, d0, d1]) rfl ⟨by rw [HZ2.out], (HWX.out.setCell (by simp) _).setCell (by simp) _⟩
          | false =>
            have hne1 : ¬ how.toList = hCount := fun e => by rw [e] at hq1; exact absurd hq1 (by decide)
            have HN1 := Sd.mk hne1
            clear hne1
            cases hq2 : ((p.length : Int) == 0) with
            | true =>
              have hnil : p = [] := List.eq_nil_of_length_eq_zero (by simpa using hq2)
              have HZ2 := Sd.mk (HZ.out.trans (vRed_nil HN1.out hnil))
              clear hnil
              go_wp2_with fail
              refine (v_Null.calls 2 0 _ rfl).mono ?_
              rintro e w9 ⟨rfl, hb9⟩
              have KX := Sd.mk (blk_below K4.out hb9)
              have HWX := Sd.mk (HB4.out.trans (hb9.mono HB4.out.size))
              clear hb9
              have d0 := (blk_cell KX.out 0).trans rfl
              have d1 := (blk_cell KX.out 1).trans rfl
              have f0 := blk_frozen KX.out 0
              have f1 := blk_frozen KX.out 1
              go_wp2
              exact bodyPost_ret (v := .tuple #[.agg #[.int .i64 2, .int .i64 0], .int .i64 0]) (by simp [results, Tryz.results10, go_sem, d0, d1]) rfl ⟨by rw [HZ2.out], (HWX.out.setCell (by simp) _).setCell (by simp) _⟩
            | false =>
              obtain ⟨x, p', hp⟩ : ∃ x p', p = x :: p' := by
                cases hh : p with
                | nil => rw [hh] at hq2; exact absurd hq2 (by decide)
                | cons x p' => exact ⟨x, p', rfl⟩
              have HP := Sd.mk hp
              clear hp
              have HZ1 := Sd.mk (HZ.out.trans (vRed_cons HN1.out HP.out))
              cases hq3 : (how.toList == [108, 97, 115, 116]) with
              | true =>
                have HZ2 := Sd.mk (HZ1.out.trans (if_pos (eq_of_beq hq3)))
                have HMy := Sd.mk (last_at A4 c4 HP.out (by have := HL24.out; omega) w4 HCp.out)
                generalize valP (lastOf cmpAt x p') = nm at HZ2 HMy
                obtain ⟨r1, r2⟩ := nm
                simp only at HMy
                go_wp2_with fail
                refine HMy.out.mono ?_
                rintro e w9 ⟨rfl, hb9⟩
                have KX := Sd.mk (blk_below K4.out hb9)
                have HWX := Sd.mk (HB4.out.trans (hb9.mono HB4.out.size))
                clear hb9
                have d0 := (blk_cell KX.out 0).trans rfl
                have d1 := (blk_cell KX.out 1).trans rfl
                have f0 := blk_frozen KX.out 0
                have f1 := blk_frozen KX.out 1
                go_wp2
                exact bodyPost_ret (v := .tuple #[.agg #[.int .i64 r1, .int .i64 r2], .int .i64 0]) (by simp [results, Tryz.results10, go_sem, d0, d1]) rfl ⟨by rw [HZ2.out], (HWX.out.setCell (by simp) _).setCell (by simp) _⟩
              | false =>
                have hne3 : ¬ how.toList = hLast := fun e => by rw [e] at hq3; exact absurd hq3 (by decide)
                have HZ3 := Sd.mk (HZ1.out.trans (if_neg hne3))
                have HOd := Sd.mk (HOdd.out p A4 c4 w4 HCp.out)
                clear hne3
                generalize p.any oddP = od at HZ3 HOd
                cases od with
                | true =>
                  have HZ2 := Sd.mk (HZ3.out.trans (if_pos rfl))
                  go_wp2_with fail
                  refine HOd.out.mono ?_
                  rintro e w8 ⟨rfl, hb8⟩
                  have K8 := Sd.mk (blk_below K4.out hb8)
                  have HB8 := Sd.mk (HB4.out.trans (hb8.mono HB4.out.size))
                  clear hb8
                  go_wp2_with fail
                  refine (v_NaN.calls 3 0 _ rfl).mono ?_
                  rintro e w9 ⟨rfl, hb9⟩
                  have KX := Sd.mk (blk_below K8.out hb9)
                  have HWX := Sd.mk (HB8.out.trans (hb9.mono HB8.out.size))
                  clear hb9
                  have d0 := (blk_cell KX.out 0).trans rfl
                  have d1 := (blk_cell KX.out 1).trans rfl
                  have f0 := blk_frozen KX.out 0
                  have f1 := blk_frozen KX.out 1
                  go_wp2
                  exact bodyPost_ret (v := .tuple #[.agg #[.int .i64 3, .int .i64 0], .int .i64 0]) (by simp [results, Tryz.results10, go_sem, d0, d1]) rfl ⟨by rw [HZ2.out], (HWX.out.setCell (by simp) _).setCell (by simp) _⟩
                | false =>
                  have HZ4 := Sd.mk (HZ3.out.trans (if_neg (by simp)))
                  have HB8f := Sd.mk HOd.out
                  cases hq4 : (how.toList == [109, 105, 110]) with
                  | true =>
                    have HZ5 := Sd.mk (HZ4.out.trans (if_pos (eq_of_beq hq4)))
                    go_wp2_with fail
                    refine HOd.out.mono ?_
                    rintro e w8 ⟨rfl, hb8⟩
                    have HCp8 := Sd.mk (Kd.C_below HCp.out hb8)
                    have K8 := Sd.mk (blk_below K4.out hb8)
                    have HB8 := Sd.mk (HB4.out.trans (hb8.mono HB4.out.size))
                    clear hb8
                    have HMy := Sd.mk (best_at ⟨#[60]⟩ A4 c4 HP.out w8 HCp8.out)
                    generalize hnm : bestGo ⟨#[60]⟩ (valP x) p = nm at HMy
                    have HZ2 := Sd.mk (HZ5.out.trans (congrArg (fun z : V => (z, (0 : Int))) hnm))
                    obtain ⟨r1, r2⟩ := nm
                    simp only at HMy
                    clear hnm
                    go_wp2_with fail
                    refine HMy.out.mono ?_
                    rintro e w9 ⟨rfl, hb9⟩
                    have KX := Sd.mk (blk_below K8.out hb9)
                    have HWX := Sd.mk (HB8.out.trans (hb9.mono HB8.out.size))
                    clear hb9
                    have d0 := (blk_cell KX.out 0).trans rfl
                    have d1 := (blk_cell KX.out 1).trans rfl
                    have f0 := blk_frozen KX.out 0
                    have f1 := blk_frozen KX.out 1
                    go_wp2
                    exact bodyPost_ret (v := .tuple #[.agg #[.int .i64 r1, .int .i64 r2], .int .i64 0]) (by simp [results, Tryz.results10, go_sem, d0, d1]) rfl ⟨by rw [HZ2.out], (HWX.out.setCell (by simp) _).setCell (by simp) _⟩
                  | false =>
                    have hne4 : ¬ how.toList = hMin := fun e => by rw [e] at hq4; exact absurd hq4 (by decide)
                    have HZ4b := Sd.mk (HZ4.out.trans (if_neg hne4))
                    clear hne4
                    cases hq5 : (how.toList == [109, 97, 120]) with
                    | true =>
                      have HZ5 := Sd.mk (HZ4b.out.trans (if_pos (eq_of_beq hq5)))
                      go_wp2_with fail
                      refine HOd.out.mono ?_
                      rintro e w8 ⟨rfl, hb8⟩
                      have HCp8 := Sd.mk (Kd.C_below HCp.out hb8)
                      have K8 := Sd.mk (blk_below K4.out hb8)
                      have HB8 := Sd.mk (HB4.out.trans (hb8.mono HB4.out.size))
                      clear hb8
                      have HMy := Sd.mk (best_at ⟨#[62]⟩ A4 c4 HP.out w8 HCp8.out)
                      generalize hnm : bestGo ⟨#[62]⟩ (valP x) p = nm at HMy
                      have HZ2 := Sd.mk (HZ5.out.trans (congrArg (fun z : V => (z, (0 : Int))) hnm))
                      obtain ⟨r1, r2⟩ := nm
                      simp only at HMy
                      clear hnm
                      go_wp2_with fail
                      refine HMy.out.mono ?_
                      rintro e w9 ⟨rfl, hb9⟩
                      have KX := Sd.mk (blk_below K8.out hb9)
                      have HWX := Sd.mk (HB8.out.trans (hb9.mono HB8.out.size))
                      clear hb9
                      have d0 := (blk_cell KX.out 0).trans rfl
                      have d1 := (blk_cell KX.out 1).trans rfl
                      have f0 := blk_frozen KX.out 0
                      have f1 := blk_frozen KX.out 1
                      go_wp2
                      exact bodyPost_ret (v := .tuple #[.agg #[.int .i64 r1, .int .i64 r2], .int .i64 0]) (by simp [results, Tryz.results10, go_sem, d0, d1]) rfl ⟨by rw [HZ2.out], (HWX.out.setCell (by simp) _).setCell (by simp) _⟩
                    | false =>
                      have hne5 : ¬ how.toList = hMax := fun e => by rw [e] at hq5; exact absurd hq5 (by decide)
                      have HZ4c := Sd.mk (HZ4b.out.trans (if_neg hne5))
                      clear hne5
                      cases hq6 : (how.toList == [115, 117, 109]) with
                      | true =>
                        have HZ5 := Sd.mk (HZ4c.out.trans (if_pos (eq_of_beq hq6)))
                        go_wp2_with fail
                        refine HOd.out.mono ?_
                        rintro e w8 ⟨rfl, hb8⟩
                        have HCp8 := Sd.mk (Kd.C_below HCp.out hb8)
                        have K8 := Sd.mk (blk_below K4.out hb8)
                        have HB8 := Sd.mk (HB4.out.trans (hb8.mono HB4.out.size))
                        clear hb8
                        have HMy := Sd.mk (total_at A4 c4 HP.out w8 HCp8.out Hcp.out)
                        generalize hnm : totalGo (valP x) p' = nm at HMy
                        have HZ2 := Sd.mk (HZ5.out.trans (congrArg (fun z : V => (z, (0 : Int))) hnm))
                        obtain ⟨r1, r2⟩ := nm
                        simp only at HMy
                        clear hnm
                        go_wp2_with fail
                        refine HMy.out.mono ?_
                        rintro e w9 ⟨rfl, hb9⟩
                        have KX := Sd.mk (blk_below K8.out hb9)
                        have HWX := Sd.mk (HB8.out.trans (hb9.mono HB8.out.size))
                        clear hb9
                        have d0 := (blk_cell KX.out 0).trans rfl
                        have d1 := (blk_cell KX.out 1).trans rfl
                        have f0 := blk_frozen KX.out 0
                        have f1 := blk_frozen KX.out 1
                        go_wp2
                        exact bodyPost_ret (v := .tuple #[.agg #[.int .i64 r1, .int .i64 r2], .int .i64 0]) (by simp [results, Tryz.results10, go_sem, d0, d1]) rfl ⟨by rw [HZ2.out], (HWX.out.setCell (by simp) _).setCell (by simp) _⟩
                      | false =>
                        have hne6 : ¬ how.toList = hSum := fun e => by rw [e] at hq6; exact absurd hq6 (by decide)
                        have HZ5 := Sd.mk (HZ4c.out.trans (if_neg hne6))
                        clear hne6
                        go_wp2_with fail
                        refine HOd.out.mono ?_
                        rintro e w8 ⟨rfl, hb8⟩
                        have HCp8 := Sd.mk (Kd.C_below HCp.out hb8)
                        have K8 := Sd.mk (blk_below K4.out hb8)
                        have HB8 := Sd.mk (HB4.out.trans (hb8.mono HB4.out.size))
                        clear hb8
                        have HMy := Sd.mk (total_at A4 c4 HP.out w8 HCp8.out Hcp.out)
                        have HMn := Sd.mk (fun (w9 : World) (h : Below w8.heap.size w8 w9) => many_calls A4 c4 p w9 (Kd.C_below HCp8.out h) Hcp.out hp4)
                        generalize totalGo (valP x) p' = nm at HMy HZ5
                        generalize vNum (1000 * (p.length : Int)) = nn at HMn HZ5
                        obtain ⟨t1, t2⟩ := nm
                        obtain ⟨n1, n2⟩ := nn
                        simp only at HMy HMn
                        rcases hdo : vDo ⟨#[47]⟩ [(t1, t2), (n1, n2)] with ⟨⟨r1, r2⟩, r3⟩
                        have HZ2 := Sd.mk (HZ5.out.trans hdo)
                        have HD := Sd.mk (fun w1 => do2_any ⟨#[47]⟩ t1 t2 n1 n2 w1 hdo)
                        clear hdo
                        go_wp2_with fail
                        refine HMy.out.mono ?_
                        rintro e w9 ⟨rfl, hb9⟩
                        have K9 := Sd.mk (blk_below K8.out hb9)
                        have HB9 := Sd.mk (HB8.out.trans (hb9.mono HB8.out.size))
                        have HM9 := Sd.mk (HMn.out w9 hb9)
                        clear hb9 HMn
                        go_wp2_with fail
                        refine HM9.out.mono ?_
                        rintro e w10 ⟨rfl, hb10⟩
                        have K10 := Sd.mk (blk_below K9.out hb10)
                        have HB10 := Sd.mk (HB9.out.trans (hb10.mono HB9.out.size))
                        clear hb10
                        go_wp2_with fail
                        refine (HD.out w10).mono ?_
                        rintro e w11 ⟨rfl, hb11⟩
                        have KX := Sd.mk (blk_below K10.out hb11)
                        have HWX := Sd.mk (HB10.out.trans (hb11.mono HB10.out.size))
                        clear hb11
                        have d0 := (blk_cell KX.out 0).trans rfl
                        have d1 := (blk_cell KX.out 1).trans rfl
                        have f0 := blk_frozen KX.out 0
                        have f1 := blk_frozen KX.out 1
                        go_wp2
                        exact bodyPost_ret (v := .tuple #[.agg #[.int .i64 r1, .int .i64 r2], .int .i64 r3]) (by simp [results, Tryz.results10, go_sem, d0, d1]) rfl ⟨by rw [HZ2.out], (HWX.out.setCell (by simp) _).setCell (by simp) _⟩
end Go.Proofs.YtcmiehddjgfjaaaGreat.A
namespace Go.Proofs.YtcmiehddjgfjaaaGreat.A.ColS
open Go Go.RowKit Go.Shelf Go.Maps Go.Proofs.YtcmiehddjgfjaaaGreatW.PrintWords Go.Proofs.YtcmiehddjgfjaaaGreatW.PrintLast Go.Proofs.YtcmiehddjgfjaaaGreatW.PrintMore
attribute [local go_sem] Oper.semAt_some
abbrev Rw := (Option Addr × Nat × Nat) × Int × Int
def cl (x : Rw) : List Value := [.slice x.1.1 x.1.2.1 x.1.2.2, .int .i64 x.2.1, .int .i64 x.2.2]
def z0 : Rw := ((none, 0, 0), 0, 0)
abbrev encs (x : Rw) : Array Value := #[.agg #[.slice x.1.1 x.1.2.1 x.1.2.2, .int .i64 x.2.1, .int .i64 x.2.2]]
/-- What has come when k rounds are over. -/
def upto {α : Type} (f : Nat → α) (k : Nat) : List α := (List.range k).map f
theorem upto_succ {α : Type} (f : Nat → α) (k : Nat) : upto f (k + 1) = upto f k ++ [f k] := by simp [upto, List.range_succ]
theorem upto_length {α : Type} (f : Nat → α) (k : Nat) : (upto f k).length = k := by simp [upto]
theorem upto_all (zs : List Rw) : upto (fun j => zs[j]?.getD z0) zs.length = zs := by
  apply List.ext_getElem
  · simp [upto]
  · intro i h1 h2
    simp [upto, h2]
/-- Row A holds zs. -/
def Holds (W : World) (ad : Addr) (zs : List Rw) : Prop := ∀ j, j < zs.length → W.cell? (ad.add (j * 3)) = some (.slice (zs[j]?.getD z0).1.1 (zs[j]?.getD z0).1.2.1 (zs[j]?.getD z0).1.2.2) ∧ W.cell? ⟨(ad.add (j * 3)).block, (ad.add (j * 3)).off + 1, none⟩ = some (.int .i64 (zs[j]?.getD z0).2.1) ∧ W.cell? ⟨(ad.add (j * 3)).block, (ad.add (j * 3)).off + 2, none⟩ = some (.int .i64 (zs[j]?.getD z0).2.2)
theorem values1_in (F : Fence) (n : Nat) (h7 : F.fn 90) (hro : F.round = none) (hn : 1 ≤ n) (l Bs n₀ : Nat) (ad : Addr) (cap : Nat) (zs : List Rw) (hreach : zs.length * 40 ≤ 140737488355328) (hb : ad.block < n₀) (J Jx : List Rw → World → Prop) (B : Nat) (hJa : AbidesFrom B J)
    (hY : ∀ pre x W, J pre W → pre.length < zs.length → YieldAt F (n - 1) Tryz.prog l (encs x) W fun e W' =>
      (e = .returned (.bool true) ∧ J (pre ++ [x]) W' ∧ Below n₀ W W') ∨ (e = .returned (.bool false) ∧ Jx (pre ++ [x]) W'))
    (W : World) (hBs : W.cell? ⟨Bs, 0, none⟩ = some (.slice (some ad) zs.length cap)) (hc : Holds W ad zs) (hBn : n₀ ≤ W.heap.size) (h0 : J [] W) :
    CallsIn F n Tryz.prog 90 #[.func (.yield l) #[] #[], .pointer (some ⟨Bs, 0, none⟩)] W fun e W' => (∃ v, e = .returned v) ∧
      ((∃ ys, ys = upto (fun j => zs[j]?.getD z0) zs.length ∧ J ys W') ∨ (∃ pre, (∃ k, k ≤ zs.length ∧ pre = upto (fun j => zs[j]?.getD z0) k) ∧ Jx pre W')) := by
  refine callsIn_of_wp Tryz.func90 rfl h7 ?_ hro
  simp only [Tryz.ntmps90, List.size_toArray, List.length_cons, List.length_nil, Nat.reduceAdd, Nat.reduceSub, Array.replicate_succ, Array.replicate_zero, List.push_toArray, List.append_toArray, List.nil_append, List.cons_append]
  gi_wp2
  gi_loopw [7] (fun i wr => ∃ k : Nat, k ≤ zs.length ∧ i = .int .i64 k ∧ J (upto (fun j => zs[j]?.getD z0) k) wr ∧ Below n₀ W wr)
    (fun i _ => zs.length - (intOf i).toNat)
  case atStart => exact ⟨0, Nat.zero_le _, rfl, h0, Below.refl _ _⟩
  case round =>
    obtain ⟨k, hk, rfl, hJs, hnx⟩ := hrel
    by_cases hlt : k < zs.length
    · obtain ⟨c0, c1, c2⟩ := hc k hlt
      have q0 := (hnx.cell (p := ad.add (k * 3)) (by rw [add_block]; exact hb)).trans c0
      have q1 := (hnx.cell (p := ⟨(ad.add (k * 3)).block, (ad.add (k * 3)).off + 1, none⟩) (by show (ad.add (k * 3)).block < n₀; rw [add_block]; exact hb)).trans c1
      have q2 := (hnx.cell (p := ⟨(ad.add (k * 3)).block, (ad.add (k * 3)).off + 2, none⟩) (by show (ad.add (k * 3)).block < n₀; rw [add_block]; exact hb)).trans c2
      clear c0 c1 c2
      obtain ⟨x, hx⟩ : ∃ x, zs[k]?.getD z0 = x := ⟨_, rfl⟩
      rw [hx] at q0 q1 q2
      obtain ⟨⟨A0, n0, k0⟩, y1, y2⟩ := x
      simp only at q0 q1 q2
      have hJw : J (upto (fun j => zs[j]?.getD z0) k) (wr.alloc (.cells #[.slice A0 n0 k0, .int .i64 y1, .int .i64 y2] 37)) := hJa _ _ _ _ hJs (World.grownBy_alloc wr _ none) (fun r e => by cases e)
      obtain ⟨fn, tmps, assign, body, hy, hR⟩ := hY _ ((A0, n0, k0), y1, y2) _ hJw (by rw [upto_length]; exact hlt)
      have HX := Sd.mk hx
      clear hx
      gi_wp2
      refine hR.mono ?_
      rintro e W3 (⟨rfl, hJ3, hk3⟩ | ⟨rfl, hJx3⟩)
      · gi_wp2
        go_roundw
        case rel => exact ⟨k + 1, by omega, by simp, by rw [upto_succ, HX.out]; exact hJ3, (hnx.alloc (by have := hnx.size; omega) _).trans hk3⟩
        case measure => simp [intOf]; omega
      · gi_wp2
        refine bodyPost_ret (results_none rfl _ _ _) rfl ?_
        exact ⟨⟨_, rfl⟩, .inr ⟨_, ⟨k + 1, by omega, by rw [upto_succ, HX.out]⟩, hJx3⟩⟩
    · obtain rfl : k = zs.length := by omega
      gi_wp2
      go_end0
      exact ⟨⟨_, rfl⟩, .inl ⟨_, rfl, hJs⟩⟩
theorem upto_take (zs : List Rw) {k : Nat} (hk : k ≤ zs.length) : upto (fun j => zs[j]?.getD z0) k = zs.take k := by
  apply List.ext_getElem
  · simp [upto, hk]
  · intro i h1 h2
    have : i < zs.length := by simp [upto] at h1; omega
    simp [upto, this]
/-- .. at no element: no round. -/
theorem values1_nil_in (F : Fence) (n : Nat) (h7 : F.fn 90) (hro : F.round = none) (l Bs : Nat) (A : Option Addr) (c : Nat) (J : List Rw → World → Prop) (W : World) (hBs : W.cell? ⟨Bs, 0, none⟩ = some (.slice A 0 c)) (h0 : J [] W) :
    CallsIn F n Tryz.prog 90 #[.func (.yield l) #[] #[], .pointer (some ⟨Bs, 0, none⟩)] W fun e W' => (∃ v, e = .returned v) ∧ J [] W' := by
  refine callsIn_of_wp Tryz.func90 rfl h7 ?_ hro
  simp only [Tryz.ntmps90, List.size_toArray, List.length_cons, List.length_nil, Nat.reduceAdd, Nat.reduceSub, Array.replicate_succ, Array.replicate_zero, List.push_toArray, List.append_toArray, List.nil_append, List.cons_append]
  gi_wp2
  gi_loopw [7] (fun i wr => i = .int .i64 0 ∧ J [] wr) (fun _ _ => 0)
  case atStart => exact ⟨rfl, h0⟩
  case round =>
    obtain ⟨rfl, hJs⟩ := hrel
    gi_wp2
    go_end0
    exact ⟨⟨_, rfl⟩, hJs⟩
/-- slices.Values: the slice value is boxed; the function value captures the box. -/
theorem values_in (F : Fence) (n : Nat) (h5 : F.fn 55) (hro : F.round = none) (a : Option Addr) (len cap : Nat) (w : World) :
    CallsIn F n Tryz.prog 55 #[.slice a len cap] w fun e w' => e = .returned (.func (.func 90) #[] #[.pointer (some ⟨w.heap.size, 0, none⟩)]) ∧ w' = w.alloc (.cells #[.slice a len cap] 33) := by
  refine callsIn_of_wp Tryz.func55 rfl h5 ?_ hro
  simp only [Tryz.ntmps55, List.size_toArray, List.length_cons, List.length_nil, Nat.reduceAdd, Nat.reduceSub, Array.replicate_succ, Array.replicate_zero, List.push_toArray, List.append_toArray, List.nil_append, List.cons_append]
  gi_wp2
  go_ret
  exact ⟨rfl, rfl⟩
/-- A row of cells below n₀ (or none). -/
def Row (n₀ : Nat) (W : World) (A : Option Addr) (zs : List Rw) : Prop := zs = [] ∨ ∃ ad, A = some ad ∧ ad.block < n₀ ∧ Holds W ad zs
theorem Row.below {n₀ : Nat} {X Y : World} (h : Below n₀ X Y) {A : Option Addr} {zs : List Rw} : Row n₀ X A zs → Row n₀ Y A zs
  | .inl e => .inl e
  | .inr ⟨ad, e, hb, hc⟩ => .inr ⟨ad, e, hb, fun j hj => by
    obtain ⟨c0, c1, c2⟩ := hc j hj
    exact ⟨(h.cell (p := ad.add (j * 3)) (by rw [add_block]; exact hb)).trans c0, (h.cell (p := ⟨(ad.add (j * 3)).block, (ad.add (j * 3)).off + 1, none⟩) (by show (ad.add (j * 3)).block < n₀; rw [add_block]; exact hb)).trans c1, (h.cell (p := ⟨(ad.add (j * 3)).block, (ad.add (j * 3)).off + 2, none⟩) (by show (ad.add (j * 3)).block < n₀; rw [add_block]; exact hb)).trans c2⟩⟩
/-- slices.Values hands back a value that gives the row's elements, in order. -/
theorem values_stops (F : Fence) (n : Nat) (h7 : F.fn 90) (hro : F.round = none) (hn : 1 ≤ n) (Bs n₀ : Nat) (A : Option Addr) (cap : Nat) (zs : List Rw) (hreach : zs.length * 40 ≤ 140737488355328) (w : World) (hBs : Bs < w.heap.size) (hn₀ : n₀ ≤ w.heap.size)
    (hc : w.cell? ⟨Bs, 0, none⟩ = some (.slice A zs.length cap)) (hI : Row n₀ w A zs) :
    SeqStopsK F n Tryz.prog 90 #[.pointer (some ⟨Bs, 0, none⟩)] encs (Below n₀) (fun ys => ys = zs) (fun pre => pre <+: zs) zs.length w := fun l J Jx W hW hJa _ hY h0 => by
  have hc' := (hW.cell (p := ⟨Bs, 0, none⟩) hBs).trans hc
  rcases hI.below (hW.mono hn₀) with rfl | ⟨ad, rfl, hb, hcs⟩
  · exact (values1_nil_in F n h7 hro l Bs A cap J W hc' h0).mono fun e W' ⟨he, hj⟩ => ⟨he, .inl ⟨_, rfl, hj⟩⟩
  · refine (values1_in F n h7 hro hn l Bs n₀ ad cap zs hreach hb J Jx _ hJa hY W hc' hcs (Nat.le_trans hn₀ hW.size) h0).mono ?_
    rintro e W' ⟨he, ⟨ys, rfl, hj⟩ | ⟨pre, ⟨k, hk, rfl⟩, hj⟩⟩
    · exact ⟨he, .inl ⟨_, upto_all zs, hj⟩⟩
    · exact ⟨he, .inr ⟨_, by rw [upto_take zs hk]; exact List.take_prefix _ _, hj⟩⟩
def flat (zs : List Rw) : List Value := zs.flatMap cl
theorem flat_snoc (zs : List Rw) (x : Rw) : flat (zs ++ [x]) = flat zs ++ cl x := by simp [flat]
theorem cells_new (W : World) (x : Rw) (t : TypeId) : ∀ (j : Nat) (u : Value), (cl x)[j]? = some u → (W.alloc (.cells #[.slice x.1.1 x.1.2.1 x.1.2.2, .int .i64 x.2.1, .int .i64 x.2.2] t)).cell? ((⟨W.heap.size, 0, none⟩ : Addr).add j) = some u := by
  intro j u hu
  have h := blk_cell (blk_new W (.cells #[.slice x.1.1 x.1.2.1 x.1.2.2, .int .i64 x.2.1, .int .i64 x.2.2] t)) j
  rw [add_at, Nat.zero_add, h]
  match j, hu with
  | 0, hu => exact hu
  | 1, hu => exact hu
  | 2, hu => exact hu
  | j + 3, hu => simp [cl] at hu
theorem cl_one (x : Rw) : ∀ u ∈ cl x, u.oneCell' = true := by
  intro u hu
  simp only [cl, List.mem_cons, List.not_mem_nil, or_false] at hu
  rcases hu with rfl | rfl | rfl <;> rfl
/-- A loop variable's box. -/
def VBox (W : World) (Bx : Nat) (x : Rw) : Prop := W.heap[Bx]? = some (.cells #[.slice x.1.1 x.1.2.1 x.1.2.2, .int .i64 x.2.1, .int .i64 x.2.2] 37 (0, 0))
theorem appendSeq_in (F : Fence) (n : Nat) (h145 : F.fn 145) (h90 : F.fn 90) (hro : F.round = none) (hn : 2 ≤ n) (Bs : Nat) (A : Option Addr) (cap : Nat) (zs : List Rw) (hreach : zs.length * 40 ≤ 140737488355328) (w : World) (hBs : Bs < w.heap.size)
    (hc : w.cell? ⟨Bs, 0, none⟩ = some (.slice A zs.length cap)) (hI : Row w.heap.size w A zs) :
    CallsIn F n Tryz.prog 145 #[.slice none 0 0, .func (.func 90) #[] #[.pointer (some ⟨Bs, 0, none⟩)]] w fun e W' => ∃ v, e = .returned v ∧ W'.ownsRow w.heap.size 37 3 v zs.length (flat zs) ∧ Below w.heap.size w W' := by
  have h1 : 1 ≤ n := by omega
  obtain ⟨i0, hi, hz0, hz1, hz2⟩ := info_parts info37
  refine callsIn_of_wp_marks Tryz.func145 rfl h145 ?_ hro
  simp only [Tryz.ntmps145, List.size_toArray, List.length_cons, List.length_nil, Nat.reduceAdd, Nat.reduceSub, Array.replicate_succ, Array.replicate_zero, List.push_toArray, List.append_toArray, List.nil_append, List.cons_append]
  gi_wp2
  have bS := Boxed.new w 33 (.slice none 0 0)
  have hB0 : Below w.heap.size w (w.alloc (.cells #[.slice none 0 0] 33)) := (Below.refl _ w).alloc (Nat.le_refl _) _
  refine wpIn_rangeFunc_ownH hro h1 (gf := 90) (lb := #[.pointer (some ⟨Bs, 0, none⟩)]) rfl h90 (enters_of Tryz.func90 (by kernel_rfl) rfl)
    (values_stops F (n - 1) h90 hro (by omega) Bs w.heap.size A cap zs hreach _ (by simp; omega) (by simp) ((hB0.cell (p := ⟨Bs, 0, none⟩) hBs).trans hc) (hI.below hB0)) belowK_t (belowK_b (by simp)) (Below.refl _ _) (fun _ => rfl)
    (fun pre W => (∃ v, Boxed W w.heap.size 33 v ∧ W.ownsRow w.heap.size 37 3 v pre.length (flat pre) ∧ True) ∧ Below w.heap.size w W)
    (fun _ _ _ => False)
    (OwnFrom.and (Own.from (holdsRow_own w.heap.size w.heap.size 33 37 3 (fun pre : List Rw => pre.length) (fun pre => flat pre) (fun _ _ => True)) _) (ownFrom_below (Nat.le_refl _) (by simp)))
    (fun _ _ _ _ _ hs _ _ => hs)
    ⟨⟨_, bS, World.ownsRow_nil _ _ _ _, trivial⟩, hB0⟩
    (fun x a' W => ∃ Bx, w.heap.size < Bx ∧ VBox W Bx x ∧ a' = { tmps := #[.slice none 0 0, .func (.func 90) #[] #[.pointer (some ⟨Bs, 0, none⟩)], .pointer (some ⟨w.heap.size, 0, none⟩), undef, .slice none 0 0, .pointer (some ⟨Bx, 0, none⟩), .func (.func 90) #[] #[.pointer (some ⟨Bs, 0, none⟩)], .agg #[.slice x.1.1 x.1.2.1 x.1.2.2, .int .i64 x.2.1, .int .i64 x.2.2], undef, undef, undef, undef, undef], defers := [] })
    (fun x a' _ W W' row hs hg hr => by
      obtain ⟨Bx, hB, hv, he⟩ := hs
      refine ⟨Bx, hB, (hg.block Bx (Array.getElem?_eq_some_iff.1 hv).1 (fun e => ?_)).trans hv, he⟩
      obtain ⟨_, o, ho, hoc⟩ := hr Bx e.symm
      rw [hv] at ho
      cases ho
      cases hoc) ?assign ?body ?done ?stop
  case assign =>
    rintro l pre x W K ⟨⟨v, hv, hrow, _⟩, hB⟩ hK
    obtain ⟨⟨A0, n0, k0⟩, y1, y2⟩ := x
    gi_wp2
    exact hK _ _ ((KeepsOthers.alloc _ _).from _) ((Below.refl _ W).alloc hB.size _) ⟨⟨v, hv.alloc _, hrow.alloc _, trivial⟩, hB.alloc hB.size _⟩ ⟨W.heap.size, hv.lt, blk_new W _, rfl⟩
  case body =>
    rintro l pre x a' W hl ⟨r, hr⟩ ⟨⟨v, hv, hrow, _⟩, hB⟩ ⟨Bx, hBx, hvx, rfl⟩ hlt
    obtain ⟨⟨A0, n0, k0⟩, y1, y2⟩ := x
    have b0 := (blk_cell hvx 0).trans rfl
    have b1 := (blk_cell hvx 1).trans rfl
    have b2 := (blk_cell hvx 2).trans rfl
    have hvc := hv.cell
    have hvf := hv.frozen
    have hle : w.heap.size ≤ W.heap.size := hB.size
    gi_wp2_with (gi_at_builtin; refine wpListIn_append_own _ rfl _ _ 33 rfl w.heap.size 37 i0 _ 3 40 Tryz.underlying33 hi hz0 hz1 hz2 rfl (by decide) _ _ _ rfl (hrow.alloc _) ⟨W.heap.size, 0, none⟩ 1 1 (cl ((A0, n0, k0), y1, y2)) rfl rfl (cells_new W ((A0, n0, k0), y1, y2) _) (cl_one _) (by unfold maxLen; omega) (by omega) (by simp; omega) ?_; intro v' w1 hown' hgrow _; obtain ⟨g', cap', rfl⟩ := ownsRow_succ hown'; obtain ⟨hv1, hv2, hr2, hk2, hb2⟩ := hv.appended (by decide) hrow hB.size (Nat.le_refl _) hown' hgrow; have hc1 := hv1.cell; have hf1 := hv1.frozen)
    exact ⟨hk2.from _, hb2, ⟨_, hv2, by rw [flat_snoc, List.length_append]; exact hr2⟩, hB.trans hb2⟩
  case done =>
    rintro D ys W hD rfl ⟨⟨v, hv, hrow, _⟩, hB⟩ hK
    have hvc := hv.cell
    gi_wp2
    refine ⟨by simp, .inl ⟨_, _, rfl, run_takeDeferred hK, ?_⟩⟩
    exact ⟨_, results_tmp rfl _ _ _, v, rfl, ownsRow_putObj hrow _ hK rfl, hB.trans (belowK_b (w := w) (Nat.le_refl _) W D _ _ (by simp at hD; omega) hK rfl rfl)⟩
  case stop =>
    rintro D c pre W _ _ h _
    exact h.elim
end Go.Proofs.YtcmiehddjgfjaaaGreat.A.ColS
namespace Go.Proofs.YtcmiehddjgfjaaaGreat.St.GSs
open Go.Proofs Go.Shelf Go.RowKit Go.Lib Go.Sort
/-- What the walks take of a program: its functions and types at these numbers. -/
structure StLays (P : Program) : Prop where
  mixed : P.follows .mixedOrders = true
  f30 : P.funcs[146]? = some Tryz.f146
  f33 : P.funcs[167]? = some Tryz.f167
  f34 : P.funcs[168]? = some Tryz.f168
  f36 : P.funcs[177]? = some Tryz.f177
  f37 : P.funcs[181]? = some Tryz.f181
  e33 : ∀ args w, (callFunc 167 args).run P w = .ok (.enter 167 args) w
  e34 : ∀ args w, (callFunc 168 args).run P w = .ok (.enter 168 args) w
  e36 : ∀ args w, (callFunc 177 args).run P w = .ok (.enter 177 args) w
  e37 : ∀ args w, (callFunc 181 args).run P w = .ok (.enter 181 args) w
  t3 : P.underlying 3 = some (TypeDesc.int IntKind.i64)
  a3 : ∀ w, (isAgg 3).run P w = .ok false w
  z3 : ∀ w, (Go.sizeOf 3).run P w = .ok 1 w
  v3 : ∀ w, (zeroValue 3).run P w = .ok (Value.int IntKind.i64 0) w
  t4 : P.underlying 4 = some (TypeDesc.bool)
  a4 : ∀ w, (isAgg 4).run P w = .ok false w
  z4 : ∀ w, (Go.sizeOf 4).run P w = .ok 1 w
  v4 : ∀ w, (zeroValue 4).run P w = .ok (Value.bool false) w
  t53 : P.underlying 141 = some (TypeDesc.int IntKind.u64)
  a53 : ∀ w, (isAgg 141).run P w = .ok false w
  z53 : ∀ w, (Go.sizeOf 141).run P w = .ok 1 w
  t22 : P.underlying 33 = some (TypeDesc.slice 37)
  a22 : ∀ w, (isAgg 33).run P w = .ok false w
  z22 : ∀ w, (Go.sizeOf 33).run P w = .ok 1 w
  t45 : P.underlying 82 = some (TypeDesc.func #[37, 37] #[3] false)
  a45 : ∀ w, (isAgg 82).run P w = .ok false w
  z45 : ∀ w, (Go.sizeOf 82).run P w = .ok 1 w
variable {P : Program} {α : Type} [Inhabited α]
theorem swapRange_w (L : StLays P) (k : Nat) (aE : ∀ w, (isAgg 37).run P w = .ok true w) (zE : ∀ w, (Go.sizeOf 37).run P w = .ok k w) (enc : α → List Value) (g : Nat) (cb : Array Value) (blk off cap a b n : Nat) (d0 d : Array α) (w0 w : World)
    (R : RowK enc k w0 blk off d0) (hs : d0.size = d.size) (S : SB enc k w0 blk off d w) (ha : a + n ≤ d.size) (hb : b + n ≤ d.size) (hsz : d.size < 4611686018427387904) :
    Calls P 181 #[.slice (some ⟨blk, off, none⟩) d.size cap, .int .i64 a, .int .i64 b, .int .i64 n, .func (.func g) #[] cb] w fun e w' => e = .returned (.tuple #[]) ∧ SB enc k w0 blk off (swpR a b 0 n d) w' := by
  have mixed := L.mixed; have t3 := L.t3; have a3 := L.a3; have z3 := L.z3; have v3 := L.v3; have t4 := L.t4; have a4 := L.a4; have z4 := L.z4; have v4 := L.v4; have t22 := L.t22; have a22 := L.a22; have z22 := L.z22
  have FG := L.f37
  have S0 : Aside (SB enc k w0 blk off d w) := S
  clear S
  go_enter FG, Tryz.ntmps181
  go_wp2_with fail
  go_loopg [10] n (fun kx s10 wr => ∃ (i : Nat) (dk : Array α), s10 = .int .i64 i ∧ i ≤ n ∧ kx = n - i ∧ dk.size = d.size ∧ Aside (SB enc k w0 blk off dk wr) ∧ swpR a b i (n - i) dk = swpR a b 0 n d)
  case atStart => exact ⟨0, d, rfl, Nat.zero_le _, rfl, rfl, S0, rfl⟩
  case round =>
    clear S0
    obtain ⟨i, dk, rfl, hin, hkx, hds, S1, heq⟩ := hrel
    by_cases hlt : i < n
    · have hltz : (i : Int) < (n : Int) := by omega
      go_wp2_with fail
      have eA : ((a : Int) + (i : Int)).toNat = a + i := by omega
      have pA : (0 : Int) ≤ (a : Int) + (i : Int) := by omega
      have bA : (a : Int) + (i : Int) < (d.size : Int) := by omega
      have rA : IntKind.i64.wrap ((a : Int) + (i : Int)) = (a : Int) + (i : Int) := by rw [IntKind.wrap_i64]; omega
      have eB : ((b : Int) + (i : Int)).toNat = b + i := by omega
      have pB : (0 : Int) ≤ (b : Int) + (i : Int) := by omega
      have bB : (b : Int) + (i : Int) < (d.size : Int) := by omega
      have rB : IntKind.i64.wrap ((b : Int) + (i : Int)) = (b : Int) + (i : Int) := by rw [IntKind.wrap_i64]; omega
      have S2 : Aside (SB enc k w0 blk off (swp dk (a + i) (b + i)) ((wr.drew.setCells blk (off + (a + i) * k) (enc dk[b + i]!)).setCells blk (off + (b + i) * k) (enc dk[a + i]!))) := S1.out.swapped R (a + i) (b + i) (by omega) (by omega)
      have la := S1.out.ld1 R (by omega) P (a + i) (by omega)
      have lb := S1.out.ld1 R (by omega) P (b + i) (by omega)
      have sa := S1.out.st1 R (by omega) P (a + i) (by omega) dk[b + i]!
      have sb := S1.out.st2 R (by omega) P (a + i) (b + i) (by omega) (by omega) dk[b + i]! dk[a + i]!
      have na : (enc dk[a + i]!).length = k := R.hk _
      have nb : (enc dk[b + i]!).length = k := R.hk _
      generalize enc dk[a + i]! = cI at S2 la sb na
      generalize enc dk[b + i]! = cJ at S2 lb sa sb nb
      clear S1
      go_wp2_with fail
      go_big_region_o
      clear la lb sa sb
      generalize (wr.drew.setCells blk (off + (a + i) * k) cJ).setCells blk (off + (b + i) * k) cI = w2 at S2 ⊢
      go_wp2
      go_roundg (n - (i + 1))
      case measure => omega
      case rel =>
        rw [show n - i = n - (i + 1) + 1 by omega, swpR] at heq
        exact ⟨i + 1, swp dk (a + i) (b + i), by go_num, by omega, rfl, by rw [size_swp]; exact hds, S2, heq⟩
    · have hi : i = n := by omega
      subst hi
      go_wp2
      go_end0
      refine ⟨rfl, ?_⟩
      rw [Nat.sub_self, swpR] at heq
      rw [← heq]
      exact S1.out
variable {P : Program} {α : Type} [Inhabited α]
theorem rotate_w (L : StLays P) (k : Nat) (aE : ∀ w, (isAgg 37).run P w = .ok true w) (zE : ∀ w, (Go.sizeOf 37).run P w = .ok k w) (enc : α → List Value) (g : Nat) (cb : Array Value) (blk off cap a m b : Nat) (d0 d : Array α) (w0 w : World)
    (R : RowK enc k w0 blk off d0) (hs : d0.size = d.size) (S : SB enc k w0 blk off d w) (ham : a < m) (hmb : m < b) (hb : b ≤ d.size) (hsz : d.size < 4611686018427387904) (t : List α) (ht : Left m t (m - a) (b - m) d) :
    Calls P 177 #[.slice (some ⟨blk, off, none⟩) d.size cap, .int .i64 a, .int .i64 m, .int .i64 b, .func (.func g) #[] cb] w fun e w' => e = .returned (.tuple #[]) ∧ ∃ d', d'.toList = t ∧ d'.size = d.size ∧ SB enc k w0 blk off d' w' := by
  have mixed := L.mixed; have t3 := L.t3; have a3 := L.a3; have z3 := L.z3; have v3 := L.v3; have t4 := L.t4; have a4 := L.a4; have z4 := L.z4; have v4 := L.v4; have t22 := L.t22; have a22 := L.a22; have z22 := L.z22
  have FG := L.f36
  have e37 := L.e37
  have S0 : Aside (SB enc k w0 blk off d w) := S
  have HT : Aside (Left m t (m - a) (b - m) d) := ht
  have LL : Aside (StLays P) := L
  clear S ht L
  have c1 : ((m - a : Nat) : Int) = (m : Int) - (a : Int) := by omega
  have c2 : ((b - m : Nat) : Int) = (b : Int) - (m : Int) := by omega
  have C1 := aside (c1)
  have C2 := aside (c2)
  clear c1 c2
  go_enter FG, Tryz.ntmps177
  go_wp2_with fail
  go_loopg [10, 11] (b - a) (fun kx s10 s11 wr => ∃ (i j : Nat) (dk : Array α), s10 = .int .i64 i ∧ s11 = .int .i64 j ∧ 0 < i ∧ 0 < j ∧ kx = i + j ∧ i ≤ m ∧ m + j ≤ d.size ∧ dk.size = d.size ∧ Aside (SB enc k w0 blk off dk wr) ∧ Aside (Left m t i j dk))
  case atStart => exact ⟨m - a, b - m, d, by rw [C1.out], by rw [C2.out], by omega, by omega, by omega, by omega, by omega, rfl, S0, HT⟩
  case round =>
    clear S0 HT
    obtain ⟨i, j, dk, rfl, rfl, hi, hj, hkx, him, hmj, hds, S1, HL⟩ := hrel
    have call : ∀ (x y n : Nat), x + n ≤ d.size → y + n ≤ d.size → Calls P 181 #[.slice (some ⟨blk, off, none⟩) d.size cap, .int .i64 x, .int .i64 y, .int .i64 n, .func (.func g) #[] cb] wr fun e w' => e = .returned (.tuple #[]) ∧ SB enc k w0 blk off (swpR x y 0 n dk) w' := by
      intro x y n hx hy
      rw [← hds]
      exact swapRange_w LL.out k aE zE enc g cb blk off cap x y n d0 dk w0 wr R (by omega) S1.out (by omega) (by omega) (by omega)
    have CALL := aside (call)
    clear call
    by_cases he : i = j
    · subst he
      have c3 : ((m : Int) - (i : Int)) = ((m - i : Nat) : Int) := by omega
      have hc := CALL.out (m - i) m i (by omega) (by omega)
      have HL2 := aside (left_same HL.out)
      clear CALL HL
      go_wp2_with (go_at_fn 181; refine hc.mono ?_; rintro e w1 ⟨rfl, hw1⟩)
      go_end0
      exact ⟨rfl, _, HL2.out, by rw [swpR_size]; exact hds, hw1⟩
    · by_cases hg : j < i
      · have c3 : ((m : Int) - (i : Int)) = ((m - i : Nat) : Int) := by omega
        have hc := CALL.out (m - i) m j (by omega) (by omega)
        have HL2 := aside (left_great HL.out hg)
        clear CALL HL
        go_wp2_with (go_at_fn 181; refine hc.mono ?_; rintro e w1 ⟨rfl, hw1⟩)
        have S2 := aside (hw1)
        clear hw1 hc
        go_roundg (i - j + j)
        case measure => omega
        case rel => exact ⟨i - j, j, _, by go_num, rfl, by omega, by omega, rfl, by omega, by omega, by rw [swpR_size]; exact hds, S2, HL2⟩
      · have c3 : ((m : Int) - (i : Int)) = ((m - i : Nat) : Int) := by omega
        have c4 : ((m : Int) + (j : Int) - (i : Int)) = ((m + j - i : Nat) : Int) := by omega
        have hc := CALL.out (m - i) (m + j - i) i (by omega) (by omega)
        have HL2 := aside (left_less HL.out (by omega))
        clear CALL HL
        go_wp2_with (go_at_fn 181; refine hc.mono ?_; rintro e w1 ⟨rfl, hw1⟩)
        have S2 := aside (hw1)
        clear hw1 hc
        go_roundg (i + (j - i))
        case measure => omega
        case rel => exact ⟨i, j - i, _, rfl, by go_num, by omega, by omega, rfl, by omega, by omega, by rw [swpR_size]; exact hds, S2, HL2⟩
open Go.Proofs.YtcmiehddjgfjaaaGreat.Stable
variable {P : Program} {α : Type} [Inhabited α]
theorem half_nat (i j : Nat) (hj : j < 4611686018427387904) (h : i < j) : ∃ h : Nat, ((i : Int) + (j : Int)) / 2 = (h : Int) ∧ i ≤ h ∧ h < j := ⟨(i + j) / 2, by omega, by omega, by omega⟩
theorem symLeft_w (L : StLays P) (k : Nat) (aE : ∀ w, (isAgg 37).run P w = .ok true w) (zE : ∀ w, (Go.sizeOf 37).run P w = .ok k w) (enc : α → List Value) (cf : α → α → Int) (g : Nat) (cb : Array Value) (eg : ∀ args w, (callFunc g args).run P w = .ok (.enter g args) w)
    (blk off cap a m b : Nat) (d0 d : Array α) (w0 w : World)
    (R : RowK enc k w0 blk off d0) (hs : d0.size = d.size) (hC : CmpB P g cb enc k cf blk off d.size w0) (O : Stable.Ord (ltOf cf)) (S : SB enc k w0 blk off d w) (hm : m = a + 1) (hmb : m < b) (hb : b ≤ d.size) (hsz : d.size < 4611686018427387904)
    (pre U V post : List α) (T : Two (ltOf cf) a m b pre U V post d) :
    Calls P 168 #[.slice (some ⟨blk, off, none⟩) d.size cap, .int .i64 a, .int .i64 m, .int .i64 b, .func (.func g) #[] cb] w fun e w' => e = .returned (.tuple #[]) ∧ ∃ d', d'.toList = pre ++ (merge (ltOf cf) U V ++ post) ∧ d'.size = d.size ∧ SB enc k w0 blk off d' w' := by
  have mixed := L.mixed; have t3 := L.t3; have a3 := L.a3; have z3 := L.z3; have v3 := L.v3; have t4 := L.t4; have a4 := L.a4; have z4 := L.z4; have v4 := L.v4; have t53 := L.t53; have a53 := L.a53; have z53 := L.z53; have t22 := L.t22; have a22 := L.a22; have z22 := L.z22; have t45 := L.t45
  have FG := L.f34
  have S0 : Aside (SB enc k w0 blk off d w) := S
  have HC : Aside (CmpB P g cb enc k cf blk off d.size w0) := hC
  have HT : Aside (Two (ltOf cf) a m b pre U V post d) := T
  have HO : Aside (Stable.Ord (ltOf cf)) := O
  have B0 : Aside (Bin (fun q => ltOf cf d[q]! d[a]!) m b m b) := Bin.start (T.mono1 O) (by omega)
  have HM : Aside (m = a + 1) := hm
  have am : a < m := by omega
  have tm : ((m : Int) - (a : Int) == 1) = true := by rw [beq_iff_eq]; omega
  have RR : Aside (RowK enc k w0 blk off d0) := R
  have HS : Aside (d0.size = d.size) := hs
  clear S hC T O hm L hs R
  go_enter FG, Tryz.ntmps168
  go_wp2_with fail
  go_loopg [10, 11] b (fun kx s10 s11 wr => ∃ (i j : Nat), s10 = .int .i64 i ∧ s11 = .int .i64 j ∧ m ≤ i ∧ i ≤ j ∧ j ≤ b ∧ Aside (kx = j - i + m) ∧ Aside (SB enc k w0 blk off d wr) ∧ Aside (Bin (fun q => ltOf cf d[q]! d[a]!) m b i j))
  case atStart => exact ⟨m, b, rfl, rfl, Nat.le_refl _, by omega, Nat.le_refl _, (show _ = _ by omega), S0, B0⟩
  case round =>
    clear S0 B0
    obtain ⟨i, j, rfl, rfl, hmi, hij, hjb, HK, S1, HB⟩ := hrel
    by_cases hlt : i < j
    · have hltz : (i : Int) < (j : Int) := by omega
      obtain ⟨h, hh, hih, hhj⟩ := half_nat i j (by omega) hlt
      have pH : (0 : Int) ≤ (h : Int) := by omega
      have bH : (h : Int) < (d.size : Int) := by omega
      have bA : (a : Int) < (d.size : Int) := by omega
      have lh : ∀ p : SBW enc k w0 blk off d, Sem.run P (loadCellsFrom ⟨blk, off + h * k, none⟩ 0 k #[]) p.w = .ok (enc d[h]!).toArray p.w := fun p => p.h.load RR.out HS.out.symm P h (by omega)
      have la : ∀ p : SBW enc k w0 blk off d, Sem.run P (loadCellsFrom ⟨blk, off + a * k, none⟩ 0 k #[]) p.w = .ok (enc d[a]!).toArray p.w := fun p => p.h.load RR.out HS.out.symm P a (by omega)
      have hcg : ∀ p : SBW enc k w0 blk off d, Calls P g (#[.agg (enc d[h]!).toArray, .agg (enc d[a]!).toArray] ++ cb) p.w fun e w' => e = .returned (.int .i64 (cf d[h]! d[a]!)) ∧ ∃ q : SBW enc k w0 blk off d, w' = q.w := fun p => HC.out.at p rfl _ _
      have HR : Aside (∀ v, ltOf cf d[h]! d[a]! = v → (if v = true then Bin (fun q => ltOf cf d[q]! d[a]!) m b (h + 1) j else Bin (fun q => ltOf cf d[q]! d[a]!) m b i h)) := fun v hv => by
        cases v with
        | true => exact HB.out.right hih hhj hv
        | false => exact HB.out.left hih hhj hv
      obtain ⟨x, hx⟩ : ∃ x, d[h]! = x := ⟨_, rfl⟩
      obtain ⟨y, hy⟩ : ∃ y, d[a]! = y := ⟨_, rfl⟩
      rw [hx] at lh hcg
      rw [hy] at la hcg
      have HX : Aside (d[h]! = x) := hx
      have HY : Aside (d[a]! = y) := hy
      clear hx hy
      by_cases hlv : cf x y < 0
      · have HL : Aside (ltOf cf d[h]! d[a]! = true) := by show _ = _; rw [HX.out, HY.out]; exact decide_eq_true hlv
        go_wp2_with fail
        haveI : Inhabited (SBW enc k w0 blk off d) := ⟨⟨_, S1.out⟩⟩
        refine wp_region_sb S1.out (by assumption) (by kernel_rfl) ?_
        repeat (quiet_step ((go_at_fn g; exact hcg _)))
        refine wpQuiet_nil ?_
        intro _ hw'
        obtain ⟨p, rfl⟩ := hw'
        go_wp2_with fail
        go_roundg (j - (h + 1) + m)
        case measure => have := HK.out; omega
        case rel => exact ⟨h + 1, j, by go_num, rfl, by omega, by omega, hjb, rfl, p.h, HR.out true HL.out⟩
      · have HL : Aside (ltOf cf d[h]! d[a]! = false) := by show _ = _; rw [HX.out, HY.out]; exact decide_eq_false hlv
        go_wp2_with fail
        haveI : Inhabited (SBW enc k w0 blk off d) := ⟨⟨_, S1.out⟩⟩
        refine wp_region_sb S1.out (by assumption) (by kernel_rfl) ?_
        repeat (quiet_step ((go_at_fn g; exact hcg _)))
        refine wpQuiet_nil ?_
        intro _ hw'
        obtain ⟨p, rfl⟩ := hw'
        go_wp2_with fail
        go_roundg (h - i + m)
        case measure => have := HK.out; omega
        case rel => exact ⟨i, h, rfl, rfl, hmi, by omega, by omega, rfl, p.h, HR.out false HL.out⟩
    · have hi : j = i := by omega
      subst hi
      have HD : Aside (MvR (pre ++ (merge (ltOf cf) U V ++ post)) j a d) := HT.out.one_left HO.out HM.out HB.out
      clear HB HK
      go_wp2_with fail
      go_loopg [13] (j - a) (fun kx s13 wr2 => ∃ (q : Nat) (dk : Array α), s13 = .int .i64 q ∧ a ≤ q ∧ q + 1 ≤ j ∧ Aside (kx = j - q) ∧ dk.size = d.size ∧ Aside (SB enc k w0 blk off dk wr2) ∧ Aside (MvR (pre ++ (merge (ltOf cf) U V ++ post)) j q dk))
      case atStart => exact ⟨a, d, rfl, Nat.le_refl _, by omega, rfl, rfl, S1, HD⟩
      case round =>
        clear S1 HD
        obtain ⟨q, dk, rfl, haq, hqj, HK, hds, S1, HD⟩ := hrel
        by_cases hq : q + 1 < j
        · have hqz : (q : Int) < (j : Int) - 1 := by omega
          have e0 : ((q : Int) + 1).toNat = q + 1 := by omega
          have p0 : (0 : Int) ≤ (q : Int) + 1 := by omega
          have b0 : (q : Int) + 1 < (d.size : Int) := by omega
          have b1 : (q : Int) < (d.size : Int) := by omega
          go_wp2_with fail
          have S2 : Aside (SB enc k w0 blk off (swp dk q (q + 1)) ((wr.drew.setCells blk (off + q * k) (enc dk[q + 1]!)).setCells blk (off + (q + 1) * k) (enc dk[q]!))) := S1.out.swapped RR.out q (q + 1) (by omega) (by omega)
          have la := S1.out.ld1 RR.out (by have := HS.out; omega) P q (by omega)
          have lb := S1.out.ld1 RR.out (by have := HS.out; omega) P (q + 1) (by omega)
          have sa := S1.out.st1 RR.out (by have := HS.out; omega) P q (by omega) dk[q + 1]!
          have sb := S1.out.st2 RR.out (by have := HS.out; omega) P q (q + 1) (by omega) (by omega) dk[q + 1]! dk[q]!
          have na : (enc dk[q]!).length = k := RR.out.hk _
          have nb : (enc dk[q + 1]!).length = k := RR.out.hk _
          generalize enc dk[q]! = cI at S2 la sb na
          generalize enc dk[q + 1]! = cJ at S2 lb sa sb nb
          clear S1
          go_big_region_o
          clear la lb sa sb
          generalize (wr.drew.setCells blk (off + q * k) cJ).setCells blk (off + (q + 1) * k) cI = w2 at S2 ⊢
          go_wp2
          go_roundg (j - (q + 1))
          case measure => have := HK.out; omega
          case rel => exact ⟨q + 1, swp dk q (q + 1), by go_num, by omega, by omega, rfl, by rw [size_swp]; exact hds, S2, HD.out.step hq⟩
        · have hqz : ¬ (q : Int) < (j : Int) - 1 := by omega
          go_wp2
          refine bodyPost_ret (results_none rfl _ _ _) rfl ?_
          exact ⟨rfl, dk, HD.out.done hq, hds, S1.out⟩
variable {P : Program} {α : Type} [Inhabited α]
theorem symRight_w (L : StLays P) (k : Nat) (aE : ∀ w, (isAgg 37).run P w = .ok true w) (zE : ∀ w, (Go.sizeOf 37).run P w = .ok k w) (enc : α → List Value) (cf : α → α → Int) (g : Nat) (cb : Array Value) (eg : ∀ args w, (callFunc g args).run P w = .ok (.enter g args) w)
    (blk off cap a m b : Nat) (d0 d : Array α) (w0 w : World)
    (R : RowK enc k w0 blk off d0) (hs : d0.size = d.size) (hC : CmpB P g cb enc k cf blk off d.size w0) (O : Stable.Ord (ltOf cf)) (S : SB enc k w0 blk off d w) (ham : a + 1 < m) (hm : b = m + 1) (hb : b ≤ d.size) (hsz : d.size < 4611686018427387904)
    (pre U V post : List α) (T : Two (ltOf cf) a m b pre U V post d) :
    Calls P 168 #[.slice (some ⟨blk, off, none⟩) d.size cap, .int .i64 a, .int .i64 m, .int .i64 b, .func (.func g) #[] cb] w fun e w' => e = .returned (.tuple #[]) ∧ ∃ d', d'.toList = pre ++ (merge (ltOf cf) U V ++ post) ∧ d'.size = d.size ∧ SB enc k w0 blk off d' w' := by
  have mixed := L.mixed; have t3 := L.t3; have a3 := L.a3; have z3 := L.z3; have v3 := L.v3; have t4 := L.t4; have a4 := L.a4; have z4 := L.z4; have v4 := L.v4; have t53 := L.t53; have a53 := L.a53; have z53 := L.z53; have t22 := L.t22; have a22 := L.a22; have z22 := L.z22; have t45 := L.t45
  have FG := L.f34
  have S0 : Aside (SB enc k w0 blk off d w) := S
  have HC : Aside (CmpB P g cb enc k cf blk off d.size w0) := hC
  have HT : Aside (Two (ltOf cf) a m b pre U V post d) := T
  have HO : Aside (Stable.Ord (ltOf cf)) := O
  have B0 : Aside (Bin (fun q => !ltOf cf d[m]! d[q]!) a m a m) := Bin.start (T.mono2 O) (by omega)
  have HM : Aside (b = m + 1) := hm
  have am : a < m := by omega
  have mb : m < b := by omega
  have tm : ((m : Int) - (a : Int) == 1) = false := by rw [beq_eq_false_iff_ne]; omega
  have tm2 : ((b : Int) - (m : Int) == 1) = true := by rw [beq_iff_eq]; omega
  have RR : Aside (RowK enc k w0 blk off d0) := R
  have HS : Aside (d0.size = d.size) := hs
  clear S hC T O hm L hs R
  go_enter FG, Tryz.ntmps168
  go_wp2_with fail
  go_loopg [14, 15] m (fun kx s10 s11 wr => ∃ (i j : Nat), s10 = .int .i64 i ∧ s11 = .int .i64 j ∧ a ≤ i ∧ i ≤ j ∧ j ≤ m ∧ Aside (kx = j - i + a) ∧ Aside (SB enc k w0 blk off d wr) ∧ Aside (Bin (fun q => !ltOf cf d[m]! d[q]!) a m i j))
  case atStart => exact ⟨a, m, rfl, rfl, Nat.le_refl _, by omega, Nat.le_refl _, (show _ = _ by omega), S0, B0⟩
  case round =>
    clear S0 B0
    obtain ⟨i, j, rfl, rfl, hmi, hij, hjb, HK, S1, HB⟩ := hrel
    by_cases hlt : i < j
    · have hltz : (i : Int) < (j : Int) := by omega
      obtain ⟨h, hh, hih, hhj⟩ := half_nat i j (by omega) hlt
      have pH : (0 : Int) ≤ (h : Int) := by omega
      have bH : (h : Int) < (d.size : Int) := by omega
      have bA : (m : Int) < (d.size : Int) := by omega
      have lh : ∀ p : SBW enc k w0 blk off d, Sem.run P (loadCellsFrom ⟨blk, off + h * k, none⟩ 0 k #[]) p.w = .ok (enc d[h]!).toArray p.w := fun p => p.h.load RR.out HS.out.symm P h (by omega)
      have la : ∀ p : SBW enc k w0 blk off d, Sem.run P (loadCellsFrom ⟨blk, off + m * k, none⟩ 0 k #[]) p.w = .ok (enc d[m]!).toArray p.w := fun p => p.h.load RR.out HS.out.symm P m (by omega)
      have hcg : ∀ p : SBW enc k w0 blk off d, Calls P g (#[.agg (enc d[m]!).toArray, .agg (enc d[h]!).toArray] ++ cb) p.w fun e w' => e = .returned (.int .i64 (cf d[m]! d[h]!)) ∧ ∃ q : SBW enc k w0 blk off d, w' = q.w := fun p => HC.out.at p rfl _ _
      have HR : Aside (∀ v, ltOf cf d[m]! d[h]! = v → (if v = true then Bin (fun q => !ltOf cf d[m]! d[q]!) a m i h else Bin (fun q => !ltOf cf d[m]! d[q]!) a m (h + 1) j)) := fun v hv => by
        cases v with
        | true => exact HB.out.left hih hhj (by simp [hv])
        | false => exact HB.out.right hih hhj (by simp [hv])
      obtain ⟨x, hx⟩ : ∃ x, d[h]! = x := ⟨_, rfl⟩
      obtain ⟨y, hy⟩ : ∃ y, d[m]! = y := ⟨_, rfl⟩
      rw [hx] at lh hcg
      rw [hy] at la hcg
      have HX : Aside (d[h]! = x) := hx
      have HY : Aside (d[m]! = y) := hy
      clear hx hy
      by_cases hlv : cf y x < 0
      · have HL : Aside (ltOf cf d[m]! d[h]! = true) := by show _ = _; rw [HY.out, HX.out]; exact decide_eq_true hlv
        go_wp2_with fail
        haveI : Inhabited (SBW enc k w0 blk off d) := ⟨⟨_, S1.out⟩⟩
        refine wp_region_sb S1.out (by assumption) (by kernel_rfl) ?_
        repeat (quiet_step ((go_at_fn g; exact hcg _)))
        refine wpQuiet_nil ?_
        intro _ hw'
        obtain ⟨p, rfl⟩ := hw'
        go_wp2_with fail
        go_roundg (h - i + a)
        case measure => have := HK.out; omega
        case rel => exact ⟨i, h, rfl, rfl, hmi, by omega, by omega, rfl, p.h, HR.out true HL.out⟩
      · have HL : Aside (ltOf cf d[m]! d[h]! = false) := by show _ = _; rw [HY.out, HX.out]; exact decide_eq_false hlv
        have hdn : decide (cf y x < 0) = false := decide_eq_false hlv
        go_wp2_with fail
        haveI : Inhabited (SBW enc k w0 blk off d) := ⟨⟨_, S1.out⟩⟩
        refine wp_region_sb S1.out (by assumption) (by kernel_rfl) ?_
        repeat (quiet_step ((go_at_fn g; exact hcg _)))
        refine wpQuiet_nil ?_
        intro _ hw'
        obtain ⟨p, rfl⟩ := hw'
        go_wp2_with fail
        go_roundg (j - (h + 1) + a)
        case measure => have := HK.out; omega
        case rel => exact ⟨h + 1, j, by go_num, rfl, by omega, by omega, hjb, rfl, p.h, HR.out false HL.out⟩
    · have hi : j = i := by omega
      subst hi
      have HD : Aside (MvL (pre ++ (merge (ltOf cf) U V ++ post)) j m d) := HT.out.one_right HO.out HM.out HB.out
      clear HB HK
      go_wp2_with fail
      go_loopg [17] (m - j) (fun kx s17 wr2 => ∃ (q : Nat) (dk : Array α), s17 = .int .i64 q ∧ q ≤ m ∧ j ≤ q ∧ Aside (kx = q - j) ∧ dk.size = d.size ∧ Aside (SB enc k w0 blk off dk wr2) ∧ Aside (MvL (pre ++ (merge (ltOf cf) U V ++ post)) j q dk))
      case atStart => exact ⟨m, d, rfl, Nat.le_refl _, by omega, rfl, rfl, S1, HD⟩
      case round =>
        clear S1 HD
        obtain ⟨q, dk, rfl, haq, hqj, HK, hds, S1, HD⟩ := hrel
        by_cases hq : j < q
        · obtain ⟨q, rfl⟩ : ∃ r, q = r + 1 := ⟨q - 1, by omega⟩
          have hqz : (j : Int) < (q : Int) + 1 := by omega
          have e0 : ((q : Int) + 1).toNat = q + 1 := by omega
          have p0 : (0 : Int) ≤ (q : Int) + 1 := by omega
          have b0 : (q : Int) + 1 < (d.size : Int) := by omega
          have b1 : (q : Int) < (d.size : Int) := by omega
          have hwp : IntKind.i64.wrap (q : Int) = (q : Int) := by rw [IntKind.wrap_i64]; omega
          go_wp2_with fail
          have S2 : Aside (SB enc k w0 blk off (swp dk (q + 1) q) ((wr.drew.setCells blk (off + (q + 1) * k) (enc dk[q]!)).setCells blk (off + q * k) (enc dk[q + 1]!))) := S1.out.swapped RR.out (q + 1) q (by omega) (by omega)
          have la := S1.out.ld1 RR.out (by have := HS.out; omega) P (q + 1) (by omega)
          have lb := S1.out.ld1 RR.out (by have := HS.out; omega) P q (by omega)
          have sa := S1.out.st1 RR.out (by have := HS.out; omega) P (q + 1) (by omega) dk[q]!
          have sb := S1.out.st2 RR.out (by have := HS.out; omega) P (q + 1) q (by omega) (by omega) dk[q]! dk[q + 1]!
          have na : (enc dk[q + 1]!).length = k := RR.out.hk _
          have nb : (enc dk[q]!).length = k := RR.out.hk _
          generalize enc dk[q + 1]! = cI at S2 la sb na
          generalize enc dk[q]! = cJ at S2 lb sa sb nb
          clear S1
          go_big_region_o
          clear la lb sa sb
          generalize (wr.drew.setCells blk (off + (q + 1) * k) cJ).setCells blk (off + q * k) cI = w2 at S2 ⊢
          go_wp2
          go_roundg (q - j)
          case measure => have := HK.out; omega
          case rel => exact ⟨q, swp dk (q + 1) q, by go_num, by omega, by omega, rfl, by rw [size_swp]; exact hds, S2, HD.out.step hq⟩
        · have hqz : ¬ (j : Int) < (q : Int) := by omega
          go_wp2
          refine bodyPost_ret (results_none rfl _ _ _) rfl ?_
          exact ⟨rfl, dk, HD.out.done hq, hds, S1.out⟩
variable {P : Program} {α : Type} [Inhabited α]
theorem mid_way (a m b : Nat) (am : a < m) (mb : m < b) : ∃ mid lo hi : Nat, ((a : Int) + (b : Int)) / 2 = (mid : Int) ∧ Mid a m b mid lo hi ∧ ((mid < m ∧ (mid : Int) + (m : Int) - (b : Int) = (lo : Int) ∧ hi = mid) ∨ (¬ mid < m ∧ lo = a ∧ hi = m)) := by
  by_cases h : (a + b) / 2 < m
  · exact ⟨(a + b) / 2, (a + b) / 2 + m - b, (a + b) / 2, by omega, ⟨am, mb, rfl, .inl ⟨h, by omega, rfl⟩⟩, .inl ⟨h, by omega, rfl⟩⟩
  · exact ⟨(a + b) / 2, a, m, by omega, ⟨am, mb, rfl, .inr ⟨by omega, rfl, rfl⟩⟩, .inr ⟨h, rfl, rfl⟩⟩
/-- What a call of symMerge does. -/
def SymDoes (P : Program) (enc : α → List Value) (k : Nat) (lt : α → α → Bool) (g : Nat) (cb : Array Value) (blk off cap a m b : Nat) (d : Array α) (w0 w : World) : Prop :=
  ∀ pre U V post : List α, Two lt a m b pre U V post d → Calls P 168 #[.slice (some ⟨blk, off, none⟩) d.size cap, .int .i64 a, .int .i64 m, .int .i64 b, .func (.func g) #[] cb] w fun e w' => e = .returned (.tuple #[]) ∧ ∃ d', d'.toList = pre ++ (merge lt U V ++ post) ∧ d'.size = d.size ∧ SB enc k w0 blk off d' w'
theorem symMid_w (L : StLays P) (k : Nat) (aE : ∀ w, (isAgg 37).run P w = .ok true w) (zE : ∀ w, (Go.sizeOf 37).run P w = .ok k w) (enc : α → List Value) (cf : α → α → Int) (g : Nat) (cb : Array Value) (eg : ∀ args w, (callFunc g args).run P w = .ok (.enter g args) w)
    (blk off cap a m b : Nat) (d0 d : Array α) (w0 w : World)
    (R : RowK enc k w0 blk off d0) (hs : d0.size = d.size) (hC : CmpB P g cb enc k cf blk off d.size w0) (O : Stable.Ord (ltOf cf)) (S : SB enc k w0 blk off d w) (ham : a + 1 < m) (hmb : m + 1 < b) (hb : b ≤ d.size) (hsz : d.size < 4611686018427387904)
    (pre U V post : List α) (T : Two (ltOf cf) a m b pre U V post d)
    (IH : ∀ (a' m' b' : Nat) (d' : Array α) (w' : World), b' - a' < b - a → d'.size = d.size → a' < m' → m' < b' → b' ≤ d.size → SB enc k w0 blk off d' w' → SymDoes P enc k (ltOf cf) g cb blk off cap a' m' b' d' w0 w') :
    Calls P 168 #[.slice (some ⟨blk, off, none⟩) d.size cap, .int .i64 a, .int .i64 m, .int .i64 b, .func (.func g) #[] cb] w fun e w' => e = .returned (.tuple #[]) ∧ ∃ d', d'.toList = pre ++ (merge (ltOf cf) U V ++ post) ∧ d'.size = d.size ∧ SB enc k w0 blk off d' w' := by
  obtain ⟨mid, lo, hi, hmid, M, way⟩ := mid_way a m b (by omega) (by omega)
  obtain ⟨f1, f2, f3, f4, f5, f6, f7⟩ := M.facts
  have B0 : Aside (Bin (fun c => !ltOf cf d[mid + m - 1 - c]! d[c]!) lo hi lo hi) := Bin.start (T.mono3 O f1 f3 f7) f2
  have F7 := aside (f7)
  have mixed := L.mixed; have t3 := L.t3; have a3 := L.a3; have z3 := L.z3; have v3 := L.v3; have t4 := L.t4; have a4 := L.a4; have z4 := L.z4; have v4 := L.v4; have t53 := L.t53; have a53 := L.a53; have z53 := L.z53; have t22 := L.t22; have a22 := L.a22; have z22 := L.z22; have t45 := L.t45
  have FG := L.f34
  have e34 := L.e34
  have e36 := L.e36
  have S0 : Aside (SB enc k w0 blk off d w) := S
  have HC : Aside (CmpB P g cb enc k cf blk off d.size w0) := hC
  have HT : Aside (Two (ltOf cf) a m b pre U V post d) := T
  have HO : Aside (Stable.Ord (ltOf cf)) := O
  have HM : Aside (Mid a m b mid lo hi) := M
  have HI := aside (IH)
  have tm : ((m : Int) - (a : Int) == 1) = false := by rw [beq_eq_false_iff_ne]; omega
  have tm2 : ((b : Int) - (m : Int) == 1) = false := by rw [beq_eq_false_iff_ne]; omega
  have RR : Aside (RowK enc k w0 blk off d0) := R
  have HS : Aside (d0.size = d.size) := hs
  have LL : Aside (StLays P) := L
  clear S hC T O M L hs R IH f7
  go_enter FG, Tryz.ntmps168
  have WAY := aside (way)
  have pp : ∃ pp : Nat, (mid : Int) + (m : Int) - 1 = (pp : Int) ∧ pp = mid + m - 1 := ⟨mid + m - 1, by omega, rfl⟩
  obtain ⟨pp, epp, hpp⟩ := pp
  have HPP := aside (hpp)
  have hpl : pp < d.size + d.size := by omega
  clear way hpp
  go_upto_if 140 with fail
  go_cut [20, 21] from 138 to 146 (fun s20 s21 wx => s20 = .int .i64 lo ∧ s21 = .int .i64 hi ∧ wx = w)
  case first =>
    rcases WAY.out with ⟨w1, eLo, rfl⟩ | ⟨w1, rfl, rfl⟩
    · go_wp2_with fail
      go_meet
      exact ⟨rfl, rfl, rfl⟩
    · go_wp2_with fail
      go_meet
      exact ⟨rfl, rfl, rfl⟩
  case rest =>
    obtain ⟨rfl, rfl, rfl⟩ := hcut
    clear WAY
    go_wp2_with fail
    go_loopg [20, 21] (hi - lo) (fun kx s20 s21 wr => ∃ (i j : Nat), s20 = .int .i64 i ∧ s21 = .int .i64 j ∧ lo ≤ i ∧ i ≤ j ∧ j ≤ hi ∧ Aside (kx = j - i) ∧ Aside (SB enc k w0 blk off d wr) ∧ Aside (Bin (fun c => !ltOf cf d[mid + m - 1 - c]! d[c]!) lo hi i j))
    case atStart => exact ⟨lo, hi, rfl, rfl, Nat.le_refl _, f2, Nat.le_refl _, rfl, S0, B0⟩
    case round =>
      clear S0 B0
      obtain ⟨i, j, rfl, rfl, hmi, hij, hjb, HK, S1, HB⟩ := hrel
      by_cases hlt : i < j
      · have hltz : (i : Int) < (j : Int) := by omega
        obtain ⟨c, hh, hih, hhj⟩ := half_nat i j (by omega) hlt
        obtain ⟨g1, g2, g3⟩ := F7.out c (by omega) (by omega)
        have q1 : c ≤ pp := by have := HPP.out; omega
        have q2 : pp - c < b := by have := HPP.out; omega
        have q3 : mid + m - 1 - c = pp - c := by have := HPP.out; omega
        have Q3 := aside (q3)
        clear g1 g2 g3 q3
        have e0 : ((pp : Int) - (c : Int)).toNat = pp - c := by omega
        have p0 : (0 : Int) ≤ (pp : Int) - (c : Int) := by omega
        have rP : IntKind.i64.wrap ((pp : Int) - (c : Int)) = (pp : Int) - (c : Int) := by rw [IntKind.wrap_i64]; omega
        have b0 : (pp : Int) - (c : Int) < (d.size : Int) := by omega
        have pH : (0 : Int) ≤ (c : Int) := by omega
        have bH : (c : Int) < (d.size : Int) := by omega
        have lh : ∀ p : SBW enc k w0 blk off d, Sem.run P (loadCellsFrom ⟨blk, off + (pp - c) * k, none⟩ 0 k #[]) p.w = .ok (enc d[pp - c]!).toArray p.w := fun p => p.h.load RR.out HS.out.symm P (pp - c) (by omega)
        have la : ∀ p : SBW enc k w0 blk off d, Sem.run P (loadCellsFrom ⟨blk, off + c * k, none⟩ 0 k #[]) p.w = .ok (enc d[c]!).toArray p.w := fun p => p.h.load RR.out HS.out.symm P c (by omega)
        have hcg : ∀ p : SBW enc k w0 blk off d, Calls P g (#[.agg (enc d[pp - c]!).toArray, .agg (enc d[c]!).toArray] ++ cb) p.w fun e w' => e = .returned (.int .i64 (cf d[pp - c]! d[c]!)) ∧ ∃ q : SBW enc k w0 blk off d, w' = q.w := fun p => HC.out.at p rfl _ _
        have HR : Aside (∀ v, ltOf cf d[pp - c]! d[c]! = v → (if v = true then Bin (fun c => !ltOf cf d[mid + m - 1 - c]! d[c]!) lo hi i c else Bin (fun c => !ltOf cf d[mid + m - 1 - c]! d[c]!) lo hi (c + 1) j)) := fun v hv => by
          cases v with
          | true => exact HB.out.left hih hhj (by simp only [Q3.out]; simp [hv])
          | false => exact HB.out.right hih hhj (by simp only [Q3.out]; simp [hv])
        obtain ⟨x, hx⟩ : ∃ x, d[pp - c]! = x := ⟨_, rfl⟩
        obtain ⟨y, hy⟩ : ∃ y, d[c]! = y := ⟨_, rfl⟩
        rw [hx] at lh hcg
        rw [hy] at la hcg
        have HX : Aside (d[pp - c]! = x) := hx
        have HY : Aside (d[c]! = y) := hy
        clear hx hy
        by_cases hlv : cf x y < 0
        · have HL : Aside (ltOf cf d[pp - c]! d[c]! = true) := by show _ = _; rw [HX.out, HY.out]; exact decide_eq_true hlv
          go_wp2_with fail
          haveI : Inhabited (SBW enc k w0 blk off d) := ⟨⟨_, S1.out⟩⟩
          refine wp_region_sb S1.out (by assumption) (by kernel_rfl) ?_
          repeat (quiet_step ((go_at_fn g; exact hcg _)))
          refine wpQuiet_nil ?_
          intro _ hw'
          obtain ⟨p, rfl⟩ := hw'
          go_wp2_with fail
          go_roundg (c - i)
          case measure => have := HK.out; omega
          case rel => exact ⟨i, c, rfl, rfl, hmi, by omega, by omega, rfl, p.h, HR.out true HL.out⟩
        · have HL : Aside (ltOf cf d[pp - c]! d[c]! = false) := by show _ = _; rw [HX.out, HY.out]; exact decide_eq_false hlv
          have hdn : decide (cf x y < 0) = false := decide_eq_false hlv
          go_wp2_with fail
          haveI : Inhabited (SBW enc k w0 blk off d) := ⟨⟨_, S1.out⟩⟩
          refine wp_region_sb S1.out (by assumption) (by kernel_rfl) ?_
          repeat (quiet_step ((go_at_fn g; exact hcg _)))
          refine wpQuiet_nil ?_
          intro _ hw'
          obtain ⟨p, rfl⟩ := hw'
          go_wp2_with fail
          go_roundg (j - (c + 1))
          case measure => have := HK.out; omega
          case rel => exact ⟨c + 1, j, by go_num, rfl, by omega, by omega, hjb, rfl, p.h, HR.out false HL.out⟩
      · have hi' : j = i := by omega
        subst hi'
        have hP : Parts (ltOf cf) a m b mid j (mid + m - j) U V := HT.out.parts HO.out HM.out HB.out
        have HP : Aside (Parts (ltOf cf) a m b mid j (mid + m - j) U V) := hP
        have eE : ∃ e : Nat, (mid : Int) + (m : Int) - (j : Int) = (e : Int) ∧ mid + m - j = e := ⟨mid + m - j, by omega, rfl⟩
        obtain ⟨e, eE, he⟩ := eE
        rw [he] at hP HP
        have k1 := hP.sa; have k2 := hP.sm; have k3 := hP.smid; have k4 := hP.me; have k5 := hP.eb; have k6 := hP.mide
        clear HB HK he hP F7
        go_upto_region 39 with fail
        go_cut [185] from 178 to 184 (fun s wx => s = .bool (decide (j < m) && decide (m < e)) ∧ wx = wr)
        case first =>
          by_cases h1 : j < m
          · go_wp2_with fail
            go_meet
            exact ⟨by simp [h1], rfl⟩
          · go_wp2_with fail
            go_meet
            exact ⟨by simp [h1], rfl⟩
        case rest =>
          obtain ⟨rfl, rfl⟩ := hcut
          go_upto_if 185 with fail
          go_cut [] from 185 to 191 (fun wx => ∃ d1 : Array α, Aside (St1 U V pre post a m j e d.size d1) ∧ Aside (SB enc k w0 blk off d1 wx))
          case first =>
            by_cases h1 : j < m
            · by_cases h2 : m < e
              · have hc := rotate_w LL.out k aE zE enc g cb blk off cap j m e d0 d w0 _ RR.out HS.out S1.out h1 h2 (by omega) hsz _ (HP.out.left HT.out.la HT.out.list)
                have HC2 := aside (hc)
                clear hc
                go_wp2_with (go_at_fn 177; refine HC2.out.mono ?_; rintro e1 w1 ⟨rfl, d1, hd1, hd2, hd3⟩)
                go_meet
                exact ⟨d1, ⟨hd1, hd2⟩, hd3⟩
              · go_wp2_with fail
                go_meet
                exact ⟨d, HP.out.st1_none HT.out.list rfl (fun h => h2 h.2), S1⟩
            · go_wp2_with fail
              go_meet
              exact ⟨d, HP.out.st1_none HT.out.list rfl (fun h => h1 h.1), S1⟩
          case rest =>
            clear S1
            obtain ⟨d1, HD1, S1⟩ := hcut
            go_upto_region 41 with fail
            go_cut [199] from 192 to 198 (fun s wx => s = .bool (decide (a < j) && decide (j < mid)) ∧ wx = wc)
            case first =>
              by_cases h1 : a < j
              · go_wp2_with fail
                go_meet
                exact ⟨by simp [h1], rfl⟩
              · go_wp2_with fail
                go_meet
                exact ⟨by simp [h1], rfl⟩
            case rest =>
              obtain ⟨rfl, rfl⟩ := hcut
              go_upto_if 199 with fail
              go_cut [] from 199 to 205 (fun wx => ∃ d2 : Array α, Aside (St2 (ltOf cf) U V pre post a m j e d.size d2) ∧ Aside (SB enc k w0 blk off d2 wx))
              case first =>
                by_cases h1 : a < j
                · by_cases h2 : j < mid
                  · have hc := HI.out a j mid d1 _ (by omega) HD1.out.2 h1 h2 (by omega) S1.out _ _ _ _ (HD1.out.two HP.out HT.out.la)
                    rw [HD1.out.2] at hc
                    have HC2 := aside (hc)
                    clear hc
                    go_wp2_with (go_at_fn 168; refine HC2.out.mono ?_; rintro e1 w1 ⟨rfl, d2, hd1, hd2, hd3⟩)
                    go_meet
                    exact ⟨d2, St2.of hd1 hd2, hd3⟩
                  · go_wp2_with fail
                    go_meet
                    exact ⟨d1, HD1.out.none HP.out (fun h => h2 h.2), S1⟩
                · go_wp2_with fail
                  go_meet
                  exact ⟨d1, HD1.out.none HP.out (fun h => h1 h.1), S1⟩
              case rest =>
                clear S1 HD1
                obtain ⟨d2, HD2, S2⟩ := hcut
                by_cases h1 : mid < e
                · by_cases h2 : e < b
                  · have hc := HI.out mid e b d2 _ (by omega) HD2.out.2 h1 h2 (by omega) S2.out _ _ _ _ (HD2.out.two HP.out HT.out.la)
                    rw [HD2.out.2] at hc
                    have HC2 := aside (hc)
                    clear hc
                    go_wp2_with (go_at_fn 168; refine HC2.out.mono ?_; rintro e1 w1 ⟨rfl, d3, hd1, hd2, hd3⟩)
                    go_end0
                    have h3 := St3.of (post := post) (n := d.size) HP.out hd1 hd2
                    exact ⟨rfl, d3, h3.1, h3.2, hd3⟩
                  · go_wp2_with fail
                    go_end0
                    have h3 := HD2.out.none HP.out (fun h => h2 h.2)
                    exact ⟨rfl, d2, h3.1, h3.2, S2.out⟩
                · go_wp2_with fail
                  go_end0
                  have h3 := HD2.out.none HP.out (fun h => h1 h.1)
                  exact ⟨rfl, d2, h3.1, h3.2, S2.out⟩
/-- Two sorted neighbours in one. -/
theorem symMerge_w (L : StLays P) (k : Nat) (aE : ∀ w, (isAgg 37).run P w = .ok true w) (zE : ∀ w, (Go.sizeOf 37).run P w = .ok k w) (enc : α → List Value) (cf : α → α → Int) (g : Nat) (cb : Array Value) (eg : ∀ args w, (callFunc g args).run P w = .ok (.enter g args) w)
    (blk off cap n : Nat) (d0 : Array α) (w0 : World) (R : RowK enc k w0 blk off d0) (hs : d0.size = n) (hC : CmpB P g cb enc k cf blk off n w0) (O : Stable.Ord (ltOf cf)) (hsz : n < 4611686018427387904) :
    ∀ (q a m b : Nat) (d : Array α) (w : World), b - a ≤ q → d.size = n → a < m → m < b → b ≤ n → SB enc k w0 blk off d w → SymDoes P enc k (ltOf cf) g cb blk off cap a m b d w0 w
  | 0, a, m, b, d, w, hq, _, h1, h2, _, _ => by omega
  | q + 1, a, m, b, d, w, hq, hd, h1, h2, hb, S => by
    subst hd
    intro pre U V post T
    by_cases c1 : m = a + 1
    · exact symLeft_w L k aE zE enc cf g cb eg blk off cap a m b d0 d w0 w R hs hC O S c1 h2 hb hsz pre U V post T
    · by_cases c2 : b = m + 1
      · exact symRight_w L k aE zE enc cf g cb eg blk off cap a m b d0 d w0 w R hs hC O S (by omega) c2 hb hsz pre U V post T
      · exact symMid_w L k aE zE enc cf g cb eg blk off cap a m b d0 d w0 w R hs hC O S (by omega) (by omega) hb hsz pre U V post T
          (fun a' m' b' d' w' hlt hd' x1 x2 x3 S' => symMerge_w L k aE zE enc cf g cb eg blk off cap _ d0 w0 R hs hC O hsz q a' m' b' d' w' (by omega) hd' x1 x2 (by omega) S')
variable {P : Program} {α : Type} [Inhabited α]
theorem insertion_w (L : StLays P) (k : Nat) (aE : ∀ w, (isAgg 37).run P w = .ok true w) (zE : ∀ w, (Go.sizeOf 37).run P w = .ok k w) (enc : α → List Value) (cf : α → α → Int) (g : Nat) (cb : Array Value) (eg : ∀ args w, (callFunc g args).run P w = .ok (.enter g args) w)
    (blk off cap a b n : Nat) (d0 d : Array α) (w0 w : World)
    (R : RowK enc k w0 blk off d0) (hs : d0.size = n) (hn : d.size = n) (hC : CmpB P g cb enc k cf blk off n w0) (O : Stable.Ord (ltOf cf)) (S : SB enc k w0 blk off d w) (hsz : n < 4611686018427387904)
    (pre seg post : List α) (T : d.toList = pre ++ (seg ++ post)) (la : pre.length = a) (lb : seg.length + a = b) :
    Calls P 167 #[.slice (some ⟨blk, off, none⟩) n cap, .int .i64 a, .int .i64 b, .func (.func g) #[] cb] w fun e w' => e = .returned (.tuple #[]) ∧ ∃ d', d'.toList = pre ++ (isort (ltOf cf) seg ++ post) ∧ d'.size = n ∧ SB enc k w0 blk off d' w' := by
  have hbn : b ≤ n := by
    have h1 : d.toList.length = n := by rw [Array.length_toList]; exact hn
    rw [T] at h1; simp at h1; omega
  have mixed := L.mixed; have t3 := L.t3; have a3 := L.a3; have z3 := L.z3; have v3 := L.v3; have t4 := L.t4; have a4 := L.a4; have z4 := L.z4; have v4 := L.v4; have t22 := L.t22; have a22 := L.a22; have z22 := L.z22; have t45 := L.t45
  have FG := L.f33
  have HC : Aside (CmpB P g cb enc k cf blk off n w0) := hC
  have HO : Aside (Stable.Ord (ltOf cf)) := O
  have RR : Aside (RowK enc k w0 blk off d0) := R
  have HS : Aside (d0.size = n) := hs
  have S0 : Aside (SB enc k w0 blk off d w) := S
  have T0 : Aside (Outer (ltOf cf) pre seg post a (a + 1) d) := Outer.start T
  have LA : Aside (pre.length = a) := la
  have LB : Aside (seg.length + a = b) := lb
  have hab : a ≤ b := by omega
  have HN : Aside (d.size = n) := hn
  clear hC O R hs S T la lb L hn
  go_enter FG, Tryz.ntmps167
  go_wp2_with fail
  go_loopg [8] (b - a) (fun g1 vi wr => ∃ (i : Nat) (dk : Array α), vi = .int .i64 i ∧ a < i ∧ i ≤ b + 1 ∧ b + 1 - i ≤ g1 + 1 ∧ Aside (dk.size = n) ∧ Aside (SB enc k w0 blk off dk wr) ∧ Aside (Outer (ltOf cf) pre seg post a i dk))
  case atStart => exact ⟨a + 1, d, by go_num, by omega, by omega, by omega, HN, S0, T0⟩
  case round =>
    clear S0 T0 HN
    obtain ⟨i, dk, rfl, hai, hib, hg1, HN, S1, HT⟩ := hrel
    by_cases hlt : i < b
    · have hltz : (i : Int) < (b : Int) := by omega
      obtain ⟨xi, hIns, hOut⟩ := HT.out.next hai (by have := LB.out; omega)
      have HI := aside hIns
      have HOU := aside hOut
      clear hIns hOut HT
      obtain ⟨wo, hwo⟩ : ∃ wo : World, wo = wr := ⟨_, rfl⟩
      subst hwo
      go_wp2_with fail
      go_loopg [9] i (fun g2 vj wr2 => ∃ (j : Nat) (dj : Array α), vj = .int .i64 j ∧ a ≤ j ∧ j ≤ i ∧ j ≤ g2 ∧ Aside (dj.size = n) ∧ Aside (SB enc k w0 blk off dj wr2) ∧ Aside (Ins (ltOf cf) pre (isort (ltOf cf) (seg.take (i - a))) (seg.drop (i + 1 - a) ++ post) xi a j dj))
      case atStart => exact ⟨i, dk, rfl, by omega, Nat.le_refl _, Nat.le_refl _, HN, S1, HI⟩
      case round =>
        clear HN S1 HI
        obtain ⟨j, dj, rfl, haj, hji, hg2, HN, S1, HI⟩ := hrel
        have out : (j ≤ a ∨ ltOf cf dj[j]! dj[j - 1]! = false) → Outer (ltOf cf) pre seg post a (i + 1) dj := fun hst => HOU.out dj (HI.out.done HO.out LA.out (isort_sorted HO.out _) hst)
        have OUT := aside out
        clear out
        by_cases hja : a < j
        · have hjaz : (a : Int) < (j : Int) := by omega
          obtain ⟨jp, rfl⟩ : ∃ jp, j = jp + 1 := ⟨j - 1, by omega⟩
          have hwp : IntKind.i64.wrap (jp : Int) = (jp : Int) := by rw [IntKind.wrap_i64]; omega
          have jz : (jp : Int) + 1 < (n : Int) := by omega
          have jz1 : (jp : Int) < (n : Int) := by omega
          have hjaz' : (a : Int) < (jp : Int) + 1 := by omega
          have p0 : (0 : Int) ≤ (jp : Int) + 1 := by omega
          have e0 : ((jp : Int) + 1).toNat = jp + 1 := by omega
          have hsd : dj.size = d0.size := by rw [HN.out, HS.out]
          have lj : ∀ p : SBW enc k w0 blk off dj, Sem.run P (loadCellsFrom ⟨blk, off + (jp + 1) * k, none⟩ 0 k #[]) p.w = .ok (enc dj[jp + 1]!).toArray p.w := fun p => p.h.load RR.out hsd P (jp + 1) (by have := HN.out; omega)
          have lp : ∀ p : SBW enc k w0 blk off dj, Sem.run P (loadCellsFrom ⟨blk, off + jp * k, none⟩ 0 k #[]) p.w = .ok (enc dj[jp]!).toArray p.w := fun p => p.h.load RR.out hsd P jp (by have := HN.out; omega)
          have hcg : ∀ p : SBW enc k w0 blk off dj, Calls P g (#[.agg (enc dj[jp + 1]!).toArray, .agg (enc dj[jp]!).toArray] ++ cb) p.w fun e w' => e = .returned (.int .i64 (cf dj[jp + 1]! dj[jp]!)) ∧ ∃ q : SBW enc k w0 blk off dj, w' = q.w := fun p => HC.out.at p HN.out _ _
          have HSD := aside hsd
          clear hsd
          obtain ⟨x, hx⟩ : ∃ x, dj[jp + 1]! = x := ⟨_, rfl⟩
          obtain ⟨y, hy⟩ : ∃ y, dj[jp]! = y := ⟨_, rfl⟩
          rw [hx] at lj hcg
          rw [hy] at lp hcg
          have HX := aside hx
          have HY := aside hy
          clear hx hy
          by_cases hlv : cf x y < 0
          · have HL : Aside (ltOf cf dj[jp + 1]! dj[jp]! = true) := by show _ = _; rw [HX.out, HY.out]; exact decide_eq_true hlv
            go_wp2_with fail
            haveI : Inhabited (SBW enc k w0 blk off dj) := ⟨⟨_, S1.out⟩⟩
            refine wp_region_sb S1.out (by assumption) (by kernel_rfl) ?_
            repeat (quiet_step ((go_at_fn g; exact hcg _)))
            refine wpQuiet_nil ?_
            intro _ hw'
            obtain ⟨p, rfl⟩ := hw'
            go_wp2_with fail
            have S2 : Aside (SB enc k w0 blk off (swp dj (jp + 1) jp) ((p.w.drew.setCells blk (off + (jp + 1) * k) (enc dj[jp]!)).setCells blk (off + jp * k) (enc dj[jp + 1]!))) := p.h.swapped RR.out (jp + 1) jp (by have := HN.out; omega) (by have := HN.out; omega)
            have la := p.h.ld1 RR.out HSD.out P (jp + 1) (by have := HN.out; omega)
            have lb := p.h.ld1 RR.out HSD.out P jp (by have := HN.out; omega)
            have sa := p.h.st1 RR.out HSD.out P (jp + 1) (by have := HN.out; omega) dj[jp]!
            have sb := p.h.st2 RR.out HSD.out P (jp + 1) jp (by have := HN.out; omega) (by have := HN.out; omega) dj[jp]! dj[jp + 1]!
            have na : (enc dj[jp + 1]!).length = k := RR.out.hk _
            have nb : (enc dj[jp]!).length = k := RR.out.hk _
            generalize enc dj[jp + 1]! = cI at S2 la sb na
            generalize enc dj[jp]! = cJ at S2 lb sa sb nb
            clear S1 lj lp hcg
            generalize p.w = wp at S2 la lb sa sb ⊢
            clear p
            go_big_region_o
            clear la lb sa sb
            generalize (wp.drew.setCells blk (off + (jp + 1) * k) cJ).setCells blk (off + jp * k) cI = w2 at S2 ⊢
            go_wp2
            go_roundg jp
            case measure => omega
            case rel => exact ⟨jp, swp dj (jp + 1) jp, by first | rfl | go_num | (congr 1; omega), by omega, by omega, Nat.le_refl _, (show _ = _ by rw [size_swp]; exact HN.out), S2, HI.out.step LA.out hja HL.out⟩
          · have HL : Aside (ltOf cf dj[jp + 1]! dj[jp]! = false) := by show _ = _; rw [HX.out, HY.out]; exact decide_eq_false hlv
            have hdn : decide (cf x y < 0) = false := decide_eq_false hlv
            go_wp2_with fail
            haveI : Inhabited (SBW enc k w0 blk off dj) := ⟨⟨_, S1.out⟩⟩
            refine wp_region_sb S1.out (by assumption) (by kernel_rfl) ?_
            repeat (quiet_step ((go_at_fn g; exact hcg _)))
            refine wpQuiet_nil ?_
            intro _ hw'
            obtain ⟨p, rfl⟩ := hw'
            go_wp2
            go_roundg (b - (i + 1))
            case measure => omega
            case rel => exact ⟨i + 1, dj, by go_num, by omega, by omega, by omega, HN, p.h, OUT.out (.inr (by simpa using HL.out))⟩
        · have hjaz : decide ((j : Int) > (a : Int)) = false := decide_eq_false (by omega)
          have hjaz' : ¬ (a : Int) < (j : Int) := by omega
          have S2 : Aside (SB enc k w0 blk off dj wr.drew) := S1.out.drew
          clear S1
          go_wp2_with fail
          go_big_region_o
          all_goals go_wp2
          go_roundg (b - (i + 1))
          case measure => omega
          case rel => exact ⟨i + 1, dj, by go_num, by omega, by omega, by omega, HN, S2, OUT.out (.inl (by omega))⟩
    · have hltz : ¬ (i : Int) < (b : Int) := by omega
      go_wp2
      go_end0
      exact ⟨rfl, dk, HT.out.done (by have := LB.out; omega), HN.out, S1.out⟩
variable {P : Program} {α : Type} [Inhabited α]
theorem stable_w (L : StLays P) (k : Nat) (aE : ∀ w, (isAgg 37).run P w = .ok true w) (zE : ∀ w, (Go.sizeOf 37).run P w = .ok k w) (enc : α → List Value) (cf : α → α → Int) (g : Nat) (cb : Array Value) (eg : ∀ args w, (callFunc g args).run P w = .ok (.enter g args) w)
    (blk off cap n : Nat) (d0 : Array α) (w0 : World)
    (R : RowK enc k w0 blk off d0) (hs : d0.size = n) (hC : CmpB P g cb enc k cf blk off n w0) (O : Stable.Ord (ltOf cf)) (hsz : n < 1152921504606846976) :
    Calls P 146 #[.slice (some ⟨blk, off, none⟩) n cap, .int .i64 n, .func (.func g) #[] cb] w0 fun e w' => e = .returned (.tuple #[]) ∧ ∃ d' : Array α, d'.toList = isort (ltOf cf) d0.toList ∧ d'.size = n ∧ SB enc k w0 blk off d' w' := by
  have mixed := L.mixed; have t3 := L.t3; have a3 := L.a3; have z3 := L.z3; have v3 := L.v3; have t4 := L.t4; have a4 := L.a4; have z4 := L.z4; have v4 := L.v4; have t22 := L.t22; have a22 := L.a22; have z22 := L.z22; have t45 := L.t45
  have FG := L.f30
  have e33 := L.e33
  have e34 := L.e34
  have hl : d0.toList.length = n := by rw [Array.length_toList]; exact hs
  have INS : Aside (∀ (a b : Nat) (d : Array α) (w : World) (pre seg post : List α), d.size = n → SB enc k w0 blk off d w → d.toList = pre ++ (seg ++ post) → pre.length = a → seg.length + a = b →
    Calls P 167 #[.slice (some ⟨blk, off, none⟩) n cap, .int .i64 a, .int .i64 b, .func (.func g) #[] cb] w fun e w' => e = .returned (.tuple #[]) ∧ ∃ d', d'.toList = pre ++ (isort (ltOf cf) seg ++ post) ∧ d'.size = n ∧ SB enc k w0 blk off d' w') :=
    fun a b d w pre seg post hn S T la lb => insertion_w L k aE zE enc cf g cb eg blk off cap a b n d0 d w0 w R hs hn hC O S (by omega) pre seg post T la lb
  have SYM : Aside (∀ (a m b : Nat) (d : Array α) (w : World) (pre U V post : List α), d.size = n → a < m → m < b → b ≤ n → SB enc k w0 blk off d w → Two (ltOf cf) a m b pre U V post d →
    Calls P 168 #[.slice (some ⟨blk, off, none⟩) n cap, .int .i64 a, .int .i64 m, .int .i64 b, .func (.func g) #[] cb] w fun e w' => e = .returned (.tuple #[]) ∧ ∃ d', d'.toList = pre ++ (merge (ltOf cf) U V ++ post) ∧ d'.size = n ∧ SB enc k w0 blk off d' w') :=
    fun a m b d w pre U V post hn h1 h2 h3 S T => by
      have := symMerge_w L k aE zE enc cf g cb eg blk off cap n d0 w0 R hs hC O (by omega) (b - a) a m b d w (Nat.le_refl _) hn h1 h2 h3 S pre U V post T
      rw [hn] at this
      exact this
  have S0 : Aside (SB enc k w0 blk off d0 w0) := SB.start R.hH
  have P0 : Aside (Pass0 (ltOf cf) 20 d0.toList 0 d0) := Pass0.start 20 d0
  have HO := aside O
  have HL := aside hl
  have HS0 := aside hs
  clear hC O R hs L hl eg
  go_enter FG, Tryz.ntmps146
  go_wp2_with fail
  go_loopg [7, 8] n (fun kx s7 s8 wr => ∃ (a : Nat) (d : Array α), s7 = .int .i64 a ∧ s8 = .int .i64 ((a + 20 : Nat) : Int) ∧ a ≤ n ∧ Aside (kx = n - a) ∧ Aside (d.size = n) ∧ Aside (SB enc k w0 blk off d wr) ∧ Aside (Pass0 (ltOf cf) 20 d0.toList a d))
  case atStart => exact ⟨0, d0, rfl, rfl, Nat.zero_le _, rfl, HS0, S0, P0⟩
  case round =>
    clear S0 P0 HS0
    obtain ⟨a, d, rfl, rfl, han, HK, HN, S1, HP⟩ := hrel
    by_cases hb : a + 20 ≤ n
    · obtain ⟨pre, seg, post, hd, hpre, hseg, hnext⟩ := HP.out.next (by rw [HL.out]; exact hb)
      have hc := INS.out a (a + 20) d wr pre seg post HN.out S1.out hd hpre (by omega)
      have HC2 := aside hc
      have HX := aside hnext
      clear hc hnext hd hseg hpre
      go_wp2_with (go_at_fn 167; refine HC2.out.mono ?_; rintro e1 w1 ⟨rfl, d1, hd1, hd2, hd3⟩)
      have Q1 := aside (HX.out d1 hd1)
      have Q2 := aside hd2
      have Q3 := aside hd3
      clear hd1 hd2 hd3
      go_roundg (n - (a + 20))
      case measure => have := HK.out; omega
      case rel => exact ⟨a + 20, d1, by go_num, by go_num, hb, rfl, Q2, Q3, Q1⟩
    · obtain ⟨pre, seg, hd, hpre, hseg, hnext⟩ := HP.out.last (by rw [HL.out]; exact hb)
      have hc := INS.out a n d wr pre seg [] HN.out S1.out hd hpre (by have := HL.out; omega)
      have HC2 := aside hc
      have HX := aside hnext
      clear hc hnext hd hseg hpre
      go_wp2_with (go_at_fn 167; refine HC2.out.mono ?_; rintro e1 w1 ⟨rfl, d1, hd1, hd2, hd3⟩)
      have Q1 : Aside (Blk (ltOf cf) 20 d0.toList d1.toList) := HX.out d1 hd1
      have Q2 := aside hd2
      have Q3 := aside hd3
      clear hd1 hd2 hd3 HX HC2 HP S1 HN HK
      go_loopg [6, 7, 8] (n - 20) (fun kx s6 s7 s8 wr2 => ∃ (s : Nat) (d : Array α), s6 = .int .i64 s ∧ 1 ≤ s ∧ s ≤ 2 * n + 20 ∧ Aside (kx = n - s) ∧ Aside (d.size = n) ∧ Aside (SB enc k w0 blk off d wr2) ∧ Aside (Blk (ltOf cf) s d0.toList d.toList))
      case atStart => exact ⟨20, d1, rfl, by omega, by omega, rfl, Q2, Q3, Q1⟩
      case round =>
        clear Q1 Q2 Q3
        obtain ⟨s, d, rfl, hs1, hs2, HK, HN, S1, HB⟩ := hrel
        by_cases hsn : s < n
        · have hsz' : (s : Int) < (n : Int) := by omega
          obtain ⟨wo, hwo⟩ : ∃ wo : World, wo = wr := ⟨_, rfl⟩
          subst hwo
          have P1 : Aside (Pass (ltOf cf) s d0.toList 0 d) := Pass.start HB.out
          go_wp2_with fail
          go_loopg [7, 8] n (fun kx s7 s8 wr2 => ∃ (a b : Nat) (d : Array α), s7 = .int .i64 a ∧ s8 = .int .i64 b ∧ a ≤ n ∧ b ≤ a + 2 * s ∧ a + 2 * s ≤ b ∧ Aside (kx = n - a) ∧ Aside (d.size = n) ∧ Aside (SB enc k w0 blk off d wr2) ∧ Aside (Pass (ltOf cf) s d0.toList a d))
          case atStart => exact ⟨0, 2 * s, d, rfl, by first | rfl | go_num | (congr 1; omega), Nat.zero_le _, by omega, by omega, rfl, HN, S1, P1⟩
          case round =>
            clear P1 HN S1 HB
            obtain ⟨a, b, d, rfl, rfl, han, hb1, hb2, HK2, HN, S1, HP⟩ := hrel
            obtain ⟨m, em, hm1, hm2⟩ : ∃ m : Nat, (a : Int) + (s : Int) = (m : Int) ∧ m ≤ a + s ∧ a + s ≤ m := ⟨a + s, by omega, by omega, by omega⟩
            obtain ⟨b2, eb2, hb3, hb4⟩ : ∃ b2 : Nat, (b : Int) + 2 * (s : Int) = (b2 : Int) ∧ b2 ≤ b + 2 * s ∧ b + 2 * s ≤ b2 := ⟨b + 2 * s, by omega, by omega, by omega⟩
            by_cases hb : b ≤ n
            · obtain ⟨pre, U, V, post, hT, hnext⟩ := HP.out.next HO.out (by rw [HL.out]; omega)
              rw [show a + s = m by omega, show a + 2 * s = b by omega] at hT
              rw [show a + 2 * s = b by omega] at hnext
              have hc := SYM.out a m b d wr pre U V post HN.out (by omega) (by omega) hb S1.out hT
              have HC2 := aside hc
              have HX := aside hnext
              clear hc hnext hT
              go_wp2_with (go_at_fn 168; refine HC2.out.mono ?_; rintro e1 w1 ⟨rfl, d1, hd1, hd2, hd3⟩)
              have Q1 := aside (HX.out d1 hd1)
              have Q2 := aside hd2
              have Q3 := aside hd3
              clear hd1 hd2 hd3
              go_roundg (n - b)
              case measure => have := HK2.out; omega
              case rel => exact ⟨b, b2, d1, rfl, rfl, hb, by omega, by omega, rfl, Q2, Q3, Q1⟩
            · by_cases hm : m < n
              · obtain ⟨pre, U, V, hT, hnext⟩ := HP.out.last HO.out (by rw [HL.out]; omega) (by rw [HL.out]; omega)
                rw [HL.out, show a + s = m by omega] at hT
                have hc := SYM.out a m n d wr pre U V [] HN.out (by omega) hm (Nat.le_refl _) S1.out hT
                have HC2 := aside hc
                have HX := aside hnext
                clear hc hnext hT
                go_wp2_with (go_at_fn 168; refine HC2.out.mono ?_; rintro e1 w1 ⟨rfl, d1, hd1, hd2, hd3⟩)
                have Q1 := aside (HX.out d1 hd1)
                have Q2 := aside hd2
                have Q3 := aside hd3
                clear hd1 hd2 hd3
                go_roundg (n - 2 * s)
                case measure => have := HK.out; omega
                case rel => exact ⟨2 * s, d1, by first | go_num | (congr 1; omega), by omega, by omega, rfl, Q2, Q3, Q1⟩
              · have Q1 := aside (HP.out.none (by rw [HL.out]; omega) (by rw [HL.out]; omega))
                go_wp2_with fail
                go_roundg (n - 2 * s)
                case measure => have := HK.out; omega
                case rel => exact ⟨2 * s, d, by first | go_num | (congr 1; omega), by omega, by omega, rfl, HN, S1, Q1⟩
        · go_wp2_with fail
          go_end0
          exact ⟨rfl, d, HB.out.whole (by rw [HL.out]; omega), HN.out, S1.out⟩
open Go.Proofs.YtcmiehddjgfjaaaGreatW.PrintWords Go.Proofs.YtcmiehddjgfjaaaGreatW.PrintLast Go.Proofs.YtcmiehddjgfjaaaGreatW.PrintMore
theorem lays : StLays Tryz.prog where
  mixed := by kernel_rfl
  f30 := Tryz.func146
  f33 := Tryz.func167
  f34 := Tryz.func168
  f36 := Tryz.func177
  f37 := Tryz.func181
  e33 := enters_of Tryz.func167 (by kernel_rfl) rfl
  e34 := enters_of Tryz.func168 (by kernel_rfl) rfl
  e36 := enters_of Tryz.func177 (by kernel_rfl) rfl
  e37 := enters_of Tryz.func181 (by kernel_rfl) rfl
  t3 := Tryz.underlying3
  a3 := Tryz.isAgg3
  z3 := Tryz.sizeOf3
  v3 := Tryz.zeroValue3
  t4 := Tryz.underlying4
  a4 := Tryz.isAgg4
  z4 := Tryz.sizeOf4
  v4 := Tryz.zeroValue4
  t53 := Tryz.underlying141
  a53 := Tryz.isAgg141
  z53 := Tryz.sizeOf141
  t22 := Tryz.underlying33
  a22 := Tryz.isAgg33
  z22 := Tryz.sizeOf33
  t45 := Tryz.underlying82
  a45 := Tryz.isAgg82
  z45 := Tryz.sizeOf82
theorem ins_none (A : Option Addr) (c g : Nat) (cb : Array Value) (w : World) :
    Calls Tryz.prog 167 #[.slice A 0 c, .int .i64 0, .int .i64 0, .func (.func g) #[] cb] w fun e w' => e = .returned (.tuple #[]) ∧ w' = w := by
  go_enter Tryz.func167, Tryz.ntmps167
  go_wp2_with fail
  go_loopg [8, 9] 0 (fun kq v8 v9 w' => v8 = .int .i64 1 ∧ w' = w)
  case atStart => exact ⟨rfl, rfl⟩
  case round =>
    obtain ⟨rfl, rfl⟩ := hrel
    go_wp2
    go_end0; exact ⟨rfl, rfl⟩
theorem stable_none (A : Option Addr) (c g : Nat) (cb : Array Value) (w : World) :
    Calls Tryz.prog 146 #[.slice A 0 c, .int .i64 0, .func (.func g) #[] cb] w fun e w' => e = .returned (.tuple #[]) ∧ w' = w := by
  go_enter Tryz.func146, Tryz.ntmps146
  go_wp2_with fail
  go_loopg [7, 8] 0 (fun kq v7 v8 w' => v7 = .int .i64 0 ∧ v8 = .int .i64 20 ∧ w' = w)
  case atStart => exact ⟨rfl, rfl, rfl⟩
  case round =>
    obtain ⟨rfl, rfl, rfl⟩ := hrel
    go_wp2_with fail
    refine (ins_none A c g cb wr).mono ?_
    rintro e w' ⟨rfl, rfl⟩
    go_wp2_with fail
    go_loopg [6, 7, 8, 9] 0 (fun kq v6 v7 v8 v9 w1 => v6 = .int .i64 20 ∧ w1 = w')
    case atStart => exact ⟨rfl, rfl⟩
    case round =>
      obtain ⟨rfl, rfl⟩ := hrel
      go_wp2
      go_end0; exact ⟨rfl, rfl⟩
/-- 'cmp' tells the order of two elements, in whatever world in which they can be read. -/
def CmpTells {α : Type} (d : Kd α) (g : Nat) (cb : Array Value) (cmp : α → α → Int) : Prop :=
  ∀ (W : World) (base : Nat) (ok : Nat → Prop) (x y : α) (cs ds : List Value), d.M W base ok x cs → d.M W base ok y ds →
    Calls Tryz.prog g (#[.agg cs.toArray, .agg ds.toArray] ++ cb) W fun e w' => e = .returned (.int .i64 (cmp x y)) ∧ Below W.heap.size W w'
theorem stable_R {α : Type} (d : Kd α) (hz : 0 < d.sz) (zE : ∀ w, (Go.sizeOf 37).run Tryz.prog w = .ok d.sz w) (cmp : α → α → Int) (g : Nat) (cb : Array Value) (eg : ∀ args w, (callFunc g args).run Tryz.prog w = .ok (.enter g args) w)
    (O : Stable.Ord (ltOf cmp)) (hcmp : CmpTells d g cb cmp) {w0 : World} {base : Nat} {ok : Nat → Prop} {v : Value} {xs : List α} (h : Kd.R d 37 w0 base ok v xs) (hl : xs.length < 1152921504606846976) :
    Calls Tryz.prog 146 #[v, .int .i64 xs.length, .func (.func g) #[] cb] w0 fun e w' => e = .returned (.tuple #[]) ∧ Kd.R d 37 w' base ok v (isort (ltOf cmp) xs) ∧ Below base w0 w' := by
  obtain ⟨A, c, rfl⟩ := Kd.R_slice h
  by_cases hx : xs = []
  · subst hx
    refine (stable_none A c g cb w0).mono ?_
    rintro e w' ⟨rfl, rfl⟩
    exact ⟨rfl, h, Below.refl _ _⟩
  · obtain ⟨ad, _, he⟩ := Kd.R_slice1 h (List.length_pos_iff.2 hx)
    injection he with he1 _ _
    subst he1
    obtain ⟨blk, rfl⟩ := Kd.R_head h
    obtain ⟨I, d0, hm, hs, hb, R⟩ := row_in h hx hz
    have hC : CmpB Tryz.prog g cb (elc (d := d) (w := w0) (base := base) (ok := ok) (g := blk)) d.sz (fun x y => cmp (elv x) (elv y)) blk 0 xs.length w0 := by
      intro dk W hdk hS x y
      exact hcmp W base _ _ _ _ _ (Kd.M_step x.2 (fun k hk hlt => hS.other hlt (fun e => hk.2 (by rw [e])))) (Kd.M_step y.2 (fun k hk hlt => hS.other hlt (fun e => hk.2 (by rw [e]))))
    have O' : Stable.Ord (ltOf (fun x y : El d w0 base ok blk => cmp (elv x) (elv y))) := ord_map elv O
    refine (stable_w lays d.sz Tryz.isAgg37 zE elc (fun x y => cmp (elv x) (elv y)) g cb eg blk 0 c xs.length d0 w0 R hs hC O' hl).mono ?_
    rintro e w' ⟨rfl, d', hd', hn, hS⟩
    obtain ⟨h1, h2⟩ := row_out h hx hn hS
    have e1 : d'.toList.map elv = isort (ltOf cmp) xs := by
      rw [hd', ← hm]
      exact isort_map elv (ltOf cmp) d0.toList
    rw [e1] at h1
    exact ⟨rfl, h1, h2 base hb⟩
/-- slices.SortStableFunc. -/
theorem sortStable_R {α : Type} (d : Kd α) (hz : 0 < d.sz) (zE : ∀ w, (Go.sizeOf 37).run Tryz.prog w = .ok d.sz w) (cmp : α → α → Int) (g : Nat) (cb : Array Value) (eg : ∀ args w, (callFunc g args).run Tryz.prog w = .ok (.enter g args) w)
    (O : Stable.Ord (ltOf cmp)) (hcmp : CmpTells d g cb cmp) {w0 : World} {base : Nat} {ok : Nat → Prop} {v : Value} {xs : List α} (h : Kd.R d 37 w0 base ok v xs) (hl : xs.length < 1152921504606846976) :
    Calls Tryz.prog 89 #[v, .func (.func g) #[] cb] w0 fun e w' => e = .returned (.tuple #[]) ∧ Kd.R d 37 w' base ok v (isort (ltOf cmp) xs) ∧ Below base w0 w' := by
  have hc := stable_R d hz zE cmp g cb eg O hcmp h hl
  obtain ⟨A, c, rfl⟩ := Kd.R_slice h
  have HC := aside hc
  clear hc h hcmp O eg zE
  go_enter Tryz.func89, Tryz.ntmps89
  go_wp2_with fail
  refine HC.out.mono ?_
  rintro e w' ⟨rfl, h1, h2⟩
  go_wp2
  go_end0
  exact ⟨rfl, h1, h2⟩
end Go.Proofs.YtcmiehddjgfjaaaGreat.St.GSs
namespace Go.Proofs.YtcmiehddjgfjaaaGreat.H
open Go.Shelf
def lays106_ren : Go.Shelf.Ren := ⟨fun | 106 => 94 | 213 => 147 | 265 => 169 | n => n, fun | 9 => 9 | 3 => 3 | n => n, fun | n => n⟩
theorem lays106 : Go.Proofs.Lays.n106 Tryz.prog lays106_ren := {
  mixed := by kernel_rfl
  f106 := Tryz.func94.trans (congrArg some (by kernel_rfl))
  f213 := Tryz.func147.trans (congrArg some (by kernel_rfl))
  f265 := Tryz.func169.trans (congrArg some (by kernel_rfl))
  t3 := Tryz.underlying3
  a3 := Tryz.isAgg3
  z3 := Tryz.sizeOf3
  v3 := Tryz.zeroValue3
  t9 := Tryz.underlying9
  a9 := Tryz.isAgg9
  z9 := Tryz.sizeOf9
  v9 := Tryz.zeroValue9 }
theorem strings_Compare (a b : ByteArray) (w : World) :
    Calls Tryz.prog 94 #[.string a, .string b] w fun e w' => e = .returned (.int .i64 (Lib.compareBytes a.data.toList b.data.toList)) ∧ w' = w := Any.strings_Compare lays106 a b w
end Go.Proofs.YtcmiehddjgfjaaaGreat.H
namespace Go.Proofs.YtcmiehddjgfjaaaGreat.A
open Go.RowKit Go.Proofs.YtcmiehddjgfjaaaGreatW.PrintWords Go.Proofs.YtcmiehddjgfjaaaGreatW.PrintLast Go.Proofs.YtcmiehddjgfjaaaGreatW.PrintMore Go.Proofs.YtcmiehddjgfjaaaGreat.St
theorem strcmp_calls (a b : ByteArray) (w : World) : Calls Tryz.prog 94 #[.string a, .string b] w fun e w' => e = .returned (.int .i64 (cmpS a b)) ∧ w = w' := (H.strings_Compare a b w).mono fun _ _ ⟨he, hw⟩ => ⟨he, hw.symm⟩
theorem byName_calls (x y : Lab) (w : World) : Calls Tryz.prog 93 #[.agg #[.string x.f0, .string x.f1], .agg #[.string y.f0, .string y.f1]] w fun e w' => e = .returned (.int .i64 (cmpS x.f0 y.f0)) ∧ Below w.heap.size w w' := by
  obtain ⟨s, t⟩ := x
  obtain ⟨u, v⟩ := y
  simp only
  have HC := Sd.mk (strcmp_calls s u)
  generalize cmpS s u = r at HC ⊢
  go_enter Tryz.func93, Tryz.ntmps93
  go_wp2_with (go_at_call 94; refine (HC.out _).mono ?_; rintro e w1 ⟨rfl, rfl⟩)
  go_ret
  exact ⟨rfl, by repeat (first | exact Below.refl _ _ | apply bal | apply pbd | apply bd1)⟩
theorem cmp1_calls (x y : Lab) (w : World) : Calls Tryz.prog 92 #[.agg #[.string x.f0, .string x.f1], .agg #[.string y.f0, .string y.f1]] w fun e w' => e = .returned (.int .i64 (cmpLab x y)) ∧ Below w.heap.size w w' := by
  have hb := fun w1 => byName_calls x y w1
  have hc := strcmp_calls x.f1 y.f1
  have he : cmpLab x y = if cmpS x.f0 y.f0 = 0 then cmpS x.f1 y.f1 else cmpS x.f0 y.f0 := rfl
  rw [he]
  obtain ⟨s, t⟩ := x
  obtain ⟨u, v⟩ := y
  simp only at hb hc ⊢
  clear he
  generalize cmpS s u = q at hb ⊢
  generalize cmpS t v = r at hc ⊢
  have HB := Sd.mk hb
  have HC := Sd.mk hc
  clear hb hc
  have x0 := blk_new (w.alloc (.cells #[.string s, .string t] 62)) (.cells #[.string u, .string v] 62)
  have b2 : Below w.heap.size w ((w.alloc (.cells #[.string s, .string t] 62)).alloc (.cells #[.string u, .string v] 62)) := bal (bal (Below.refl _ _) _) _
  have xs := blk_alloc (blk_new w (.cells #[.string s, .string t] 62)) (.cells #[.string u, .string v] 62)
  rw [World.size_alloc] at x0
  have X0 := Sd.mk x0
  have XS := Sd.mk xs
  have B2 := Sd.mk b2
  clear x0 xs b2
  by_cases h0 : q = 0
  · subst h0
    rw [if_pos rfl]
    go_enter Tryz.func92, Tryz.ntmps92
    go_wp2_with (first
      | (go_at_call 93; refine (HB.out _).mono ?_; rintro e w1 ⟨rfl, hb1⟩; have c0 := (blk_cell (blk_below XS.out hb1) 1).trans rfl; have c1 := (blk_cell (blk_below X0.out hb1) 1).trans rfl; have HE := Sd.mk (B2.out.trans (hb1.mono B2.out.size)); clear hb1)
      | (go_at_call 94; refine (HC.out _).mono ?_; rintro e w2 ⟨rfl, rfl⟩))
    go_ret
    exact ⟨rfl, HE.out⟩
  · rw [if_neg h0]
    have b1 : (q != 0) = true := by simpa using h0
    have b0 : (q == 0) = false := by simpa using h0
    clear h0
    go_enter Tryz.func92, Tryz.ntmps92
    go_wp2_with (go_at_call 93; refine (HB.out _).mono ?_; rintro e w1 ⟨rfl, hb1⟩; have HE := Sd.mk (B2.out.trans (hb1.mono B2.out.size)); clear hb1)
    go_ret
    exact ⟨rfl, HE.out⟩
theorem compareFunc_calls (A B : Option Addr) (c d : Nat) (a b : List Lab) (w : World) (ha : Kd.C k62 w A a.length a) (hb : Kd.C k62 w B b.length b) :
    Calls Tryz.prog 91 #[.slice A a.length c, .slice B b.length d, .func (.func 92) #[] #[]] w fun e w' => e = .returned (.int .i64 (cmpL a b)) ∧ Below w.heap.size w w' := by
  have hma : a.length ≤ 9223372036854775807 := Kd.C_max ha
  have hmb : b.length ≤ 9223372036854775807 := Kd.C_max hb
  have HA := Sd.mk ha
  have HB := Sd.mk hb
  have eg : ∀ args w, (callFunc 92 args).run Tryz.prog w = .ok (.enter 92 args) w := enters_of Tryz.func92 (by kernel_rfl) rfl
  clear ha hb
  go_enter Tryz.func91, Tryz.ntmps91
  go_wp2
  go_loopg [6, 7, 8, 9, 10, 13] a.length (fun gg v6 _ _ _ _ v13 wr => ∃ i : Nat, i ≤ a.length ∧ i ≤ b.length ∧ v6 = .int .i64 0 ∧ v13 = .int .i64 i ∧ Sd (gg = a.length - i) ∧ Sd (cmpL a b = cmpL (a.drop i) (b.drop i)) ∧ Sd (Below w.heap.size w wr))
  case atStart => exact ⟨0, Nat.zero_le _, Nat.zero_le _, rfl, rfl, ⟨rfl⟩, ⟨rfl⟩, ⟨Below.refl _ _⟩⟩
  case round =>
    obtain ⟨i, hia, hib, rfl, rfl, HK, HT, HW⟩ := hrel
    by_cases hlt : i < a.length
    · have bl : (i : Int) < (a.length : Int) := by omega
      obtain ⟨ad, rfl, p0, p1⟩ := at_T62 (Kd.C_below HA.out HW.out) (i : Int) (by omega) (by omega)
      rw [Int.toNat_natCast, rdL_at hlt] at p0 p1
      have ea := List.drop_eq_getElem_cons hlt
      by_cases hj : i < b.length
      · have bj : (i : Int) < (b.length : Int) := by omega
        have bj2 : decide ((i : Int) ≥ (b.length : Int)) = false := decide_eq_false (by omega)
        obtain ⟨ad2, rfl, r0, r1⟩ := at_T62 (Kd.C_below HB.out HW.out) (i : Int) (by omega) (by omega)
        rw [Int.toNat_natCast, rdL_at hj] at r0 r1
        have eb := List.drop_eq_getElem_cons hj
        have HT2 := Sd.mk (show cmpL a b = if cmpLab a[i] b[i] = 0 then cmpL (a.drop (i + 1)) (b.drop (i + 1)) else cmpLab a[i] b[i] by rw [HT.out, ea, eb, cmpL])
        clear ea eb HT
        have hcl := cmp1_calls a[i] b[i]
        generalize a[i] = x at p0 p1 HT2 hcl
        generalize b[i] = y at r0 r1 HT2 hcl
        generalize cmpLab x y = r at HT2 hcl
        have bn : Below wr.heap.size wr (wr.alloc (.cells #[.string x.f0, .string x.f1] 62)) := bal (Below.refl _ _) _
        have s0 := pw_cell_below bn r0
        have s1 := pw_cell_below bn r1
        clear bn r0 r1
        have bj3 : decide (b.length ≤ i) = false := decide_eq_false (by omega)
        by_cases h0 : r = 0
        · subst h0
          have HT3 := Sd.mk (HT2.out.trans (if_pos rfl))
          clear HT2
          go_wp2_with (go_at_fn 92; refine (hcl _).mono ?_; rintro e w1 ⟨rfl, hb1⟩; have HE := Sd.mk ((bal (bal HW.out _) _).trans (hb1.mono (bal (bal HW.out _) _).size)); clear hb1)
          go_roundg (a.length - (i + 1))
          case measure => have := HK.out; omega
          case rel => exact ⟨i + 1, by omega, by omega, rfl, by go_num, ⟨rfl⟩, HT3, HE⟩
        · have HT3 := Sd.mk (HT2.out.trans (if_neg h0))
          have n0 : (r != 0) = true := by simpa using h0
          have n1 : (r == 0) = false := by simpa using h0
          clear HT2 h0
          go_wp2_with (go_at_fn 92; refine (hcl _).mono ?_; rintro e w1 ⟨rfl, hb1⟩; have HE := Sd.mk ((bal (bal HW.out _) _).trans (hb1.mono (bal (bal HW.out _) _).size)); clear hb1)
          go_ret
          exact ⟨by rw [HT3.out]; rfl, HE.out⟩
      · have bj2 : decide ((i : Int) ≥ (b.length : Int)) = true := decide_eq_true (by omega)
        have HT2 := Sd.mk (show cmpL a b = 1 by rw [HT.out, ea, show b.drop i = [] from List.drop_of_length_le (by omega)]; rfl)
        clear ea HT
        generalize a[i] = x at p0 p1
        have bj3 : decide (b.length ≤ i) = true := decide_eq_true (by omega)
        go_wp2
        go_ret
        exact ⟨by rw [HT2.out]; rfl, by have := HW.out; repeat (first | exact this | apply bal | apply pbd | apply bd1)⟩
    · have n1 : decide ((i : Int) < (a.length : Int)) = false := decide_eq_false (by omega)
      have n2 : decide (i < a.length) = false := decide_eq_false hlt
      have HT2 := Sd.mk (show cmpL a b = if a.length < b.length then -1 else 0 by
        rw [HT.out, List.drop_of_length_le (by omega)]
        by_cases h : a.length < b.length
        · rw [if_pos h, List.drop_eq_getElem_cons (show i < b.length by omega)]; rfl
        · rw [if_neg h, List.drop_of_length_le (by omega)]; rfl)
      by_cases h : a.length < b.length
      · have b1 : decide ((a.length : Int) < (b.length : Int)) = true := decide_eq_true (by omega)
        have b2 : decide (a.length < b.length) = true := decide_eq_true h
        rw [if_pos h] at HT2
        go_wp2
        go_ret
        exact ⟨by rw [HT2.out]; rfl, HW.out⟩
      · have b1 : decide ((a.length : Int) < (b.length : Int)) = false := decide_eq_false (by omega)
        have b2 : decide (a.length < b.length) = false := decide_eq_false h
        rw [if_neg h] at HT2
        go_wp2
        go_ret
        exact ⟨by rw [HT2.out]; rfl, HW.out⟩
theorem lcompare_calls (A B : Option Addr) (c d : Nat) (a b : List Lab) (w : World) (ha : Kd.C k62 w A a.length a) (hb : Kd.C k62 w B b.length b) :
    Calls Tryz.prog 57 #[.slice A a.length c, .slice B b.length d] w fun e w' => e = .returned (.int .i64 (cmpL a b)) ∧ Below w.heap.size w w' := by
  have HC := Sd.mk (compareFunc_calls A B c d a b w ha hb)
  clear ha hb
  generalize cmpL a b = r at HC ⊢
  go_enter Tryz.func57, Tryz.ntmps57
  go_wp2_with (go_at_call 91; refine HC.out.mono ?_; rintro e w1 ⟨rfl, hb1⟩)
  go_ret
  exact ⟨rfl, hb1⟩
open Go.Proofs.YtcmiehddjgfjaaaGreat.Stable
def cmpSer (x y : Ser) : Int := cmpL x.f0 y.f0
theorem cmpSer3 : Cmp3 cmpSer := cmpL3.map S37.f0
theorem heapSer : Kd.Heap k37 := Kd.heap_iso _ (Kd.heap_pair (Kd.heap_slice _ (Kd.heap_iso _ (Kd.heap_pair Kd.heap_string Kd.heap_string))) (Kd.heap_iso _ (Kd.heap_pair (Kd.heap_int _) (Kd.heap_int _))))
theorem values_calls (A : Option Addr) (n c : Nat) (w : World) : Calls Tryz.prog 55 #[.slice A n c] w fun e w' => e = .returned (.func (.func 90) #[] #[.pointer (some ⟨w.heap.size, 0, none⟩)]) ∧ w' = w.alloc (.cells #[.slice A n c] 33) :=
  callsIn_wide.1 (ColS.values_in Fence.wide 3 trivial rfl A n c w)
theorem collect_calls (Bs : Nat) (A : Option Addr) (cap : Nat) (zs : List ColS.Rw) (hreach : zs.length * 40 ≤ 140737488355328) (w : World) (hBs : Bs < w.heap.size) (hc : w.cell? ⟨Bs, 0, none⟩ = some (.slice A zs.length cap)) (hI : ColS.Row w.heap.size w A zs) :
    Calls Tryz.prog 88 #[.func (.func 90) #[] #[.pointer (some ⟨Bs, 0, none⟩)]] w fun e w' => ∃ v, e = .returned v ∧ w'.ownsRow w.heap.size 37 3 v zs.length (ColS.flat zs) ∧ Below w.heap.size w w' := by
  have HA := Sd.mk (callsIn_wide.1 (ColS.appendSeq_in Fence.wide 3 trivial trivial rfl (by omega) Bs A cap zs hreach w hBs hc hI))
  clear hreach hBs hc hI
  go_enter Tryz.func88, Tryz.ntmps88
  go_wp2_with (go_at_call 145; refine HA.out.mono ?_; rintro e w1 ⟨v, rfl, ho, hb⟩; have HO := Sd.mk ho; have HB := Sd.mk hb; clear ho hb)
  go_ret
  exact ⟨v, rfl, HO.out, HB.out⟩
theorem sorted_calls {P' : Value → World → Prop} (g : Nat) (Bs : Nat) (A : Option Addr) (cap : Nat) (zs : List ColS.Rw) (hreach : zs.length * 40 ≤ 140737488355328) (w : World) (hBs : Bs < w.heap.size) (hc : w.cell? ⟨Bs, 0, none⟩ = some (.slice A zs.length cap)) (hI : ColS.Row w.heap.size w A zs)
    (hS : ∀ v w1, w1.ownsRow w.heap.size 37 3 v zs.length (ColS.flat zs) → Below w.heap.size w w1 → Calls Tryz.prog 89 #[v, .func (.func g) #[] #[]] w1 fun e w' => e = .returned (.tuple #[]) ∧ P' v w') :
    Calls Tryz.prog 54 #[.func (.func 90) #[] #[.pointer (some ⟨Bs, 0, none⟩)], .func (.func g) #[] #[]] w fun e w' => ∃ v, e = .returned v ∧ P' v w' := by
  have HA := Sd.mk (collect_calls Bs A cap zs hreach w hBs hc hI)
  have HS := Sd.mk hS
  clear hreach hBs hc hI hS
  go_enter Tryz.func54, Tryz.ntmps54
  go_wp2_with fail
  refine HA.out.mono ?_
  rintro e w1 ⟨v, rfl, ho, hb⟩
  have HC := Sd.mk (HS.out v w1 ho hb)
  clear ho hb HS HA
  go_wp2_with fail
  refine HC.out.mono ?_
  rintro e w2 ⟨rfl, hp⟩
  have HP := Sd.mk hp
  clear hp
  go_wp2
  go_ret
  exact ⟨v, rfl, HP.out⟩
/-- An element's cells, read in w0. -/
def kFix (w0 : World) : Kd Ser where
  sz := 3
  E := []
  K := fun _ x cs => Kd.FK k37 w0 (fun k => k < w0.heap.size) x cs
  M := fun _ _ _ x cs => Kd.FK k37 w0 (fun k => k < w0.heap.size) x cs
  K_len := fun h => k37.K_len (Kd.FK_now h)
  K_one := fun h => k37.K_one (Kd.FK_now h)
  K_below := fun _ h => h
  K_of_M := fun h => h
  M_mono := fun _ h => h
  M_bound := fun h => h
  M_move := fun _ h => h
  M_lower := fun _ h => h
theorem rows_of {w : World} {A : Option Addr} {l : List Ser} (hr : Kd.C k37 w A l.length l) : ∃ zs : List ColS.Rw, zs.length = l.length ∧ ColS.Row w.heap.size w A zs ∧ ∀ (j : Nat) (x : Ser) (r : ColS.Rw), l[j]? = some x → zs[j]? = some r → Kd.FK k37 w (fun k => k < w.heap.size) x (ColS.cl r) := by
  have hF := Kd.F_rows (Kd.C_F heapSer hr)
  obtain ⟨_, _, h3⟩ := hF
  have key : ∀ j : Fin l.length, ∃ r : ColS.Rw, Kd.FK k37 w (fun k => k < w.heap.size) l[j] (ColS.cl r) ∧ ∀ ad, A = some ad → ∀ i u, (ColS.cl r)[i]? = some u → w.cell? (ad.add (j * 3 + i)) = some u := by
    intro j
    obtain ⟨ad, rfl, hc⟩ := h3 (by have := j.2; omega)
    obtain ⟨c, hl, hk, hcell⟩ := hc j l[j] (List.getElem?_eq_getElem j.2)
    obtain ⟨A0, c0, rfl, _, _⟩ := k37_open (Kd.FK_now hk)
    exact ⟨((A0, l[j].f0.length, c0), l[j].f1.f0, l[j].f1.f1), hk, fun ad' e i u hu => by injection e with e; subst e; exact hcell i u hu⟩
  obtain ⟨f, hf⟩ : ∃ f : Fin l.length → ColS.Rw, ∀ j, Kd.FK k37 w (fun k => k < w.heap.size) l[j] (ColS.cl (f j)) ∧ ∀ ad, A = some ad → ∀ i u, (ColS.cl (f j))[i]? = some u → w.cell? (ad.add (j * 3 + i)) = some u := ⟨fun j => Classical.choose (key j), fun j => Classical.choose_spec (key j)⟩
  refine ⟨List.ofFn f, by simp, ?_, fun j x r hx hz => ?_⟩
  · by_cases hl : l.length = 0
    · exact .inl (List.eq_nil_of_length_eq_zero (by simpa using hl))
    · obtain ⟨ad, rfl, hc⟩ := h3 (by omega)
      refine .inr ⟨ad, rfl, ?_, fun j hj => ?_⟩
      · have h0 := (hf ⟨0, by omega⟩).2 ad rfl 0 _ rfl
        have := World.block_lt_of_cell? w _ h0
        rwa [add_block] at this
      · rw [List.length_ofFn] at hj
        have e : (List.ofFn f)[j]?.getD ColS.z0 = f ⟨j, hj⟩ := by simp [hj]
        rw [e]
        have h := (hf ⟨j, hj⟩).2 ad rfl
        exact ⟨h 0 _ rfl, by rw [← add_field _ _ 1 (by omega)]; exact h 1 _ rfl, by rw [← add_field _ _ 2 (by omega)]; exact h 2 _ rfl⟩
  · have hj : j < l.length := (List.getElem?_eq_some_iff.1 hx).1
    rw [List.getElem?_eq_getElem hj] at hx
    rw [List.getElem?_eq_getElem (by simpa using hj)] at hz
    injection hx with hx
    injection hz with hz
    subst hx; subst hz
    simpa using (hf ⟨j, hj⟩).1
theorem flat_seg (zs : List ColS.Rw) (j : Nat) (hj : j < zs.length) : ((ColS.flat zs).drop (j * 3)).take 3 = ColS.cl zs[j] := by
  induction zs generalizing j with
  | nil => simp at hj
  | cons z zs ih =>
    cases j with
    | zero => simp [ColS.flat, ColS.cl]
    | succ j =>
      have := ih j (by simpa using hj)
      rw [List.getElem_cons_succ, ← this]
      have e : (j + 1) * 3 = (ColS.cl z).length + j * 3 := by show (j + 1) * 3 = 3 + j * 3; omega
      rw [e, ← List.drop_drop]
      congr 1
theorem flat_len (zs : List ColS.Rw) : (ColS.flat zs).length = zs.length * 3 := by
  induction zs with
  | nil => rfl
  | cons z zs ih =>
    show (ColS.cl z ++ ColS.flat zs).length = _
    rw [List.length_append, ih, List.length_cons]
    show 3 + zs.length * 3 = _
    omega
theorem fix_R {w w1 : World} {l : List Ser} {zs : List ColS.Rw} {v : Value} (hz : zs.length = l.length) (hk : ∀ (j : Nat) (x : Ser) (r : ColS.Rw), l[j]? = some x → zs[j]? = some r → Kd.FK k37 w (fun k => k < w.heap.size) x (ColS.cl r))
    (ho : w1.ownsRow w.heap.size 37 3 v zs.length (ColS.flat zs)) : Kd.R (kFix w) 37 w1 w.heap.size (fun _ => True) v l := by
  refine ⟨fun _ _ => trivial, ColS.flat zs, by rw [← hz]; exact ho, by rw [flat_len, hz]; rfl, fun j p hp => ?_⟩
  have hj : j < zs.length := by have := (List.getElem?_eq_some_iff.1 hp).1; omega
  show Kd.FK k37 w (fun k => k < w.heap.size) p (((ColS.flat zs).drop (j * 3)).take 3)
  rw [flat_seg zs j hj]
  exact hk j p _ hp (List.getElem?_eq_getElem hj)
theorem fix_N {w w1 : World} {l : List Ser} {v : Value} (h : Kd.R (kFix w) 37 w1 w.heap.size (fun _ => True) v l) (hb : Below w.heap.size w w1) : Kd.N k37 37 w1 w.heap.size (fun _ => True) v l := by
  have hbase := Kd.R_base h
  have h2 := Kd.R_N h
  obtain ⟨h0, rows, hl, hR, hf⟩ := h2
  refine ⟨fun _ _ => trivial, rows, hl, hR, fun j x c hx hc => ?_⟩
  have hk : Kd.FK k37 w (fun k => k < w.heap.size) x c := Kd.FK_now (hf j x c hx hc)
  exact Kd.FK_mono (Kd.FK_step hk (fun k hk hlt => hb.block k hlt)) (fun k hk => ⟨trivial, fun e => by have := hbase k e.symm; omega⟩)
/-- 'cmp' tells the order of two elements, in each world in which what they lead to is as it was. -/
def CmpFix (g : Nat) (w : World) (cmp : Ser → Ser → Int) : Prop :=
  ∀ (W : World) (x y : Ser) (cs ds : List Value), k37.K W x cs → k37.K W y ds →
    Calls Tryz.prog g #[.agg cs.toArray, .agg ds.toArray] W fun e w' => e = .returned (.int .i64 (cmp x y)) ∧ Below W.heap.size W w'
theorem sort_fix {w w1 : World} {l : List Ser} {v : Value} (g : Nat) (eg : ∀ args w, (callFunc g args).run Tryz.prog w = .ok (.enter g args) w) (cmp : Ser → Ser → Int) (O : Cmp3 cmp) (hcmp : CmpFix g w cmp)
    (h : Kd.R (kFix w) 37 w1 w.heap.size (fun _ => True) v l) (hb : Below w.heap.size w w1) (hl : l.length < 1152921504606846976) :
    Calls Tryz.prog 146 #[v, .int .i64 l.length, .func (.func g) #[] #[]] w1 fun e w' => e = .returned (.tuple #[]) ∧ Kd.R (kFix w) 37 w' w.heap.size (fun _ => True) v (isort (ltOf cmp) l) ∧ Below w.heap.size w1 w' := by
  obtain ⟨A, c, rfl⟩ := Kd.R_slice h
  by_cases hx : l = []
  · subst hx
    refine (GSs.stable_none A c g #[] w1).mono ?_
    rintro e w' ⟨rfl, rfl⟩
    exact ⟨rfl, h, Below.refl _ _⟩
  · obtain ⟨ad, _, he⟩ := Kd.R_slice1 h (List.length_pos_iff.2 hx)
    injection he with he1 _ _
    subst he1
    obtain ⟨blk, rfl⟩ := Kd.R_head h
    obtain ⟨I, d0, hm, hs, hbk, R⟩ := row_in h hx (show 0 < 3 by omega)
    have hC : CmpB Tryz.prog g #[] (elc (d := kFix w) (w := w1) (base := w.heap.size) (ok := fun _ => True) (g := blk)) (kFix w).sz (fun x y => cmp (elv x) (elv y)) blk 0 l.length w1 := by
      intro dk W hdk hS x y
      have hW : ∀ k, k < w.heap.size → W.heap[k]? = w.heap[k]? := fun k hk => (hS.other (Nat.lt_of_lt_of_le hk hb.size) (by omega)).trans (hb.block k hk)
      exact hcmp W _ _ _ _ (Kd.FK_now (Kd.FK_step x.2 (fun k hk _ => hW k hk))) (Kd.FK_now (Kd.FK_step y.2 (fun k hk _ => hW k hk)))
    have O' : Stable.Ord (ltOf (fun x y : El (kFix w) w1 w.heap.size (fun _ => True) blk => cmp (elv x) (elv y))) := ord_map elv O.ord
    refine (GSs.stable_w GSs.lays (kFix w).sz Tryz.isAgg37 Tryz.sizeOf37 elc (fun x y => cmp (elv x) (elv y)) g #[] eg blk 0 c l.length d0 w1 R hs hC O' hl).mono ?_
    rintro e w' ⟨rfl, d', hd', hn, hS⟩
    obtain ⟨h1, h2⟩ := row_out h hx hn hS
    have e1 : d'.toList.map elv = isort (ltOf cmp) l := by
      rw [hd', ← hm]
      exact isort_map elv (ltOf cmp) d0.toList
    rw [e1] at h1
    exact ⟨rfl, h1, h2 _ hbk⟩
theorem sort_fix2 {w w1 : World} {l : List Ser} {v : Value} (g : Nat) (eg : ∀ args w, (callFunc g args).run Tryz.prog w = .ok (.enter g args) w) (cmp : Ser → Ser → Int) (O : Cmp3 cmp) (hcmp : CmpFix g w cmp)
    (h : Kd.R (kFix w) 37 w1 w.heap.size (fun _ => True) v l) (hb : Below w.heap.size w w1) (hl : l.length < 1152921504606846976) :
    Calls Tryz.prog 89 #[v, .func (.func g) #[] #[]] w1 fun e w' => e = .returned (.tuple #[]) ∧ Kd.R (kFix w) 37 w' w.heap.size (fun _ => True) v (isort (ltOf cmp) l) ∧ Below w.heap.size w1 w' := by
  have HC := Sd.mk (sort_fix g eg cmp O hcmp h hb hl)
  obtain ⟨A, c, rfl⟩ := Kd.R_slice h
  clear h hcmp O eg hb
  go_enter Tryz.func89, Tryz.ntmps89
  go_wp2_with fail
  refine HC.out.mono ?_
  rintro e w' ⟨rfl, h1, h2⟩
  go_wp2
  go_end0
  exact ⟨rfl, h1, h2⟩
/-- slices.SortedStableFunc(slices.Values(l), cmp), behind slices.Values. -/
theorem sortedN_calls (g : Nat) (eg : ∀ args w, (callFunc g args).run Tryz.prog w = .ok (.enter g args) w) (cmp : Ser → Ser → Int) (O : Cmp3 cmp) (Bs : Nat) (A : Option Addr) (cap : Nat) (l : List Ser) (hreach : l.length * 40 ≤ 140737488355328) (w : World) (hcmp : CmpFix g w cmp) (hBs : Bs < w.heap.size) (hc : w.cell? ⟨Bs, 0, none⟩ = some (.slice A l.length cap)) (hr : Kd.C k37 w A l.length l) :
    Calls Tryz.prog 54 #[.func (.func 90) #[] #[.pointer (some ⟨Bs, 0, none⟩)], .func (.func g) #[] #[]] w fun e w' => ∃ v, e = .returned v ∧ Kd.N k37 37 w' w.heap.size (fun _ => True) v (isort (ltOf cmp) l) ∧ Below w.heap.size w w' := by
  obtain ⟨zs, hz, hrow, hk⟩ := rows_of hr
  refine sorted_calls g Bs A cap zs (by omega) w hBs (by rw [hz]; exact hc) hrow (fun v w1 ho hb => ?_)
  refine (sort_fix2 g eg cmp O hcmp (fix_R hz hk ho) hb (by omega)).mono ?_
  rintro e w' ⟨rfl, h1, h2⟩
  exact ⟨rfl, fix_N h1 (hb.trans h2), hb.trans h2⟩
theorem sort3_calls (w : World) : CmpFix 56 w cmpSer := by
  intro W x y cs ds hx hy
  obtain ⟨A0, c0, rfl, _, hA⟩ := k37_open hx
  obtain ⟨B0, d0, rfl, _, hB⟩ := k37_open hy
  have hb := ((Below.refl W.heap.size W).alloc (Nat.le_refl _) (.cells #[.slice A0 x.f0.length c0, .int .i64 x.f1.f0, .int .i64 x.f1.f1] 37)).alloc (by simp) (.cells #[.slice B0 y.f0.length d0, .int .i64 y.f1.f0, .int .i64 y.f1.f1] 37)
  have HC := Sd.mk (lcompare_calls A0 B0 c0 d0 x.f0 y.f0 _ (Kd.C_below hA hb) (Kd.C_below hB hb))
  have HB := Sd.mk hb
  unfold cmpSer
  generalize cmpL x.f0 y.f0 = r at HC ⊢
  clear hx hy hA hB hb
  go_enter Tryz.func56, Tryz.ntmps56
  go_wp2_with (go_at_call 57; refine HC.out.mono ?_; rintro e w1 ⟨rfl, hb1⟩; have HE := Sd.mk (HB.out.trans (hb1.mono HB.out.size)); clear hb1)
  go_ret
  exact ⟨rfl, HE.out⟩
end Go.Proofs.YtcmiehddjgfjaaaGreat.A
namespace Go.Proofs.YtcmiehddjgfjaaaGreat.St.GSl
open Go.Proofs Go.Shelf Go.RowKit Go.Lib Go.Sort
/-- What the walks take of a program: its functions and types at these numbers. -/
structure StLays (P : Program) : Prop where
  mixed : P.follows .mixedOrders = true
  f30 : P.funcs[166]? = some Tryz.f166
  f33 : P.funcs[175]? = some Tryz.f175
  f34 : P.funcs[176]? = some Tryz.f176
  f36 : P.funcs[180]? = some Tryz.f180
  f37 : P.funcs[183]? = some Tryz.f183
  e33 : ∀ args w, (callFunc 175 args).run P w = .ok (.enter 175 args) w
  e34 : ∀ args w, (callFunc 176 args).run P w = .ok (.enter 176 args) w
  e36 : ∀ args w, (callFunc 180 args).run P w = .ok (.enter 180 args) w
  e37 : ∀ args w, (callFunc 183 args).run P w = .ok (.enter 183 args) w
  t3 : P.underlying 3 = some (TypeDesc.int IntKind.i64)
  a3 : ∀ w, (isAgg 3).run P w = .ok false w
  z3 : ∀ w, (Go.sizeOf 3).run P w = .ok 1 w
  v3 : ∀ w, (zeroValue 3).run P w = .ok (Value.int IntKind.i64 0) w
  t4 : P.underlying 4 = some (TypeDesc.bool)
  a4 : ∀ w, (isAgg 4).run P w = .ok false w
  z4 : ∀ w, (Go.sizeOf 4).run P w = .ok 1 w
  v4 : ∀ w, (zeroValue 4).run P w = .ok (Value.bool false) w
  t53 : P.underlying 141 = some (TypeDesc.int IntKind.u64)
  a53 : ∀ w, (isAgg 141).run P w = .ok false w
  z53 : ∀ w, (Go.sizeOf 141).run P w = .ok 1 w
  t22 : P.underlying 35 = some (TypeDesc.slice 62)
  a22 : ∀ w, (isAgg 35).run P w = .ok false w
  z22 : ∀ w, (Go.sizeOf 35).run P w = .ok 1 w
  t45 : P.underlying 115 = some (TypeDesc.func #[62, 62] #[3] false)
  a45 : ∀ w, (isAgg 115).run P w = .ok false w
  z45 : ∀ w, (Go.sizeOf 115).run P w = .ok 1 w
variable {P : Program} {α : Type} [Inhabited α]
theorem swapRange_w (L : StLays P) (k : Nat) (aE : ∀ w, (isAgg 62).run P w = .ok true w) (zE : ∀ w, (Go.sizeOf 62).run P w = .ok k w) (enc : α → List Value) (g : Nat) (cb : Array Value) (blk off cap a b n : Nat) (d0 d : Array α) (w0 w : World)
    (R : RowK enc k w0 blk off d0) (hs : d0.size = d.size) (S : SB enc k w0 blk off d w) (ha : a + n ≤ d.size) (hb : b + n ≤ d.size) (hsz : d.size < 4611686018427387904) :
    Calls P 183 #[.slice (some ⟨blk, off, none⟩) d.size cap, .int .i64 a, .int .i64 b, .int .i64 n, .func (.func g) #[] cb] w fun e w' => e = .returned (.tuple #[]) ∧ SB enc k w0 blk off (swpR a b 0 n d) w' := by
  have mixed := L.mixed; have t3 := L.t3; have a3 := L.a3; have z3 := L.z3; have v3 := L.v3; have t4 := L.t4; have a4 := L.a4; have z4 := L.z4; have v4 := L.v4; have t22 := L.t22; have a22 := L.a22; have z22 := L.z22
  have FG := L.f37
  have S0 : Aside (SB enc k w0 blk off d w) := S
  clear S
  go_enter FG, Tryz.ntmps183
  go_wp2_with fail
  go_loopg [10] n (fun kx s10 wr => ∃ (i : Nat) (dk : Array α), s10 = .int .i64 i ∧ i ≤ n ∧ kx = n - i ∧ dk.size = d.size ∧ Aside (SB enc k w0 blk off dk wr) ∧ swpR a b i (n - i) dk = swpR a b 0 n d)
  case atStart => exact ⟨0, d, rfl, Nat.zero_le _, rfl, rfl, S0, rfl⟩
  case round =>
    clear S0
    obtain ⟨i, dk, rfl, hin, hkx, hds, S1, heq⟩ := hrel
    by_cases hlt : i < n
    · have hltz : (i : Int) < (n : Int) := by omega
      go_wp2_with fail
      have eA : ((a : Int) + (i : Int)).toNat = a + i := by omega
      have pA : (0 : Int) ≤ (a : Int) + (i : Int) := by omega
      have bA : (a : Int) + (i : Int) < (d.size : Int) := by omega
      have rA : IntKind.i64.wrap ((a : Int) + (i : Int)) = (a : Int) + (i : Int) := by rw [IntKind.wrap_i64]; omega
      have eB : ((b : Int) + (i : Int)).toNat = b + i := by omega
      have pB : (0 : Int) ≤ (b : Int) + (i : Int) := by omega
      have bB : (b : Int) + (i : Int) < (d.size : Int) := by omega
      have rB : IntKind.i64.wrap ((b : Int) + (i : Int)) = (b : Int) + (i : Int) := by rw [IntKind.wrap_i64]; omega
      have S2 : Aside (SB enc k w0 blk off (swp dk (a + i) (b + i)) ((wr.drew.setCells blk (off + (a + i) * k) (enc dk[b + i]!)).setCells blk (off + (b + i) * k) (enc dk[a + i]!))) := S1.out.swapped R (a + i) (b + i) (by omega) (by omega)
      have la := S1.out.ld1 R (by omega) P (a + i) (by omega)
      have lb := S1.out.ld1 R (by omega) P (b + i) (by omega)
      have sa := S1.out.st1 R (by omega) P (a + i) (by omega) dk[b + i]!
      have sb := S1.out.st2 R (by omega) P (a + i) (b + i) (by omega) (by omega) dk[b + i]! dk[a + i]!
      have na : (enc dk[a + i]!).length = k := R.hk _
      have nb : (enc dk[b + i]!).length = k := R.hk _
      generalize enc dk[a + i]! = cI at S2 la sb na
      generalize enc dk[b + i]! = cJ at S2 lb sa sb nb
      clear S1
      go_wp2_with fail
      go_big_region_o
      clear la lb sa sb
      generalize (wr.drew.setCells blk (off + (a + i) * k) cJ).setCells blk (off + (b + i) * k) cI = w2 at S2 ⊢
      go_wp2
      go_roundg (n - (i + 1))
      case measure => omega
      case rel =>
        rw [show n - i = n - (i + 1) + 1 by omega, swpR] at heq
        exact ⟨i + 1, swp dk (a + i) (b + i), by go_num, by omega, rfl, by rw [size_swp]; exact hds, S2, heq⟩
    · have hi : i = n := by omega
      subst hi
      go_wp2
      go_end0
      refine ⟨rfl, ?_⟩
      rw [Nat.sub_self, swpR] at heq
      rw [← heq]
      exact S1.out
variable {P : Program} {α : Type} [Inhabited α]
theorem rotate_w (L : StLays P) (k : Nat) (aE : ∀ w, (isAgg 62).run P w = .ok true w) (zE : ∀ w, (Go.sizeOf 62).run P w = .ok k w) (enc : α → List Value) (g : Nat) (cb : Array Value) (blk off cap a m b : Nat) (d0 d : Array α) (w0 w : World)
    (R : RowK enc k w0 blk off d0) (hs : d0.size = d.size) (S : SB enc k w0 blk off d w) (ham : a < m) (hmb : m < b) (hb : b ≤ d.size) (hsz : d.size < 4611686018427387904) (t : List α) (ht : Left m t (m - a) (b - m) d) :
    Calls P 180 #[.slice (some ⟨blk, off, none⟩) d.size cap, .int .i64 a, .int .i64 m, .int .i64 b, .func (.func g) #[] cb] w fun e w' => e = .returned (.tuple #[]) ∧ ∃ d', d'.toList = t ∧ d'.size = d.size ∧ SB enc k w0 blk off d' w' := by
  have mixed := L.mixed; have t3 := L.t3; have a3 := L.a3; have z3 := L.z3; have v3 := L.v3; have t4 := L.t4; have a4 := L.a4; have z4 := L.z4; have v4 := L.v4; have t22 := L.t22; have a22 := L.a22; have z22 := L.z22
  have FG := L.f36
  have e37 := L.e37
  have S0 : Aside (SB enc k w0 blk off d w) := S
  have HT : Aside (Left m t (m - a) (b - m) d) := ht
  have LL : Aside (StLays P) := L
  clear S ht L
  have c1 : ((m - a : Nat) : Int) = (m : Int) - (a : Int) := by omega
  have c2 : ((b - m : Nat) : Int) = (b : Int) - (m : Int) := by omega
  have C1 := aside (c1)
  have C2 := aside (c2)
  clear c1 c2
  go_enter FG, Tryz.ntmps180
  go_wp2_with fail
  go_loopg [10, 11] (b - a) (fun kx s10 s11 wr => ∃ (i j : Nat) (dk : Array α), s10 = .int .i64 i ∧ s11 = .int .i64 j ∧ 0 < i ∧ 0 < j ∧ kx = i + j ∧ i ≤ m ∧ m + j ≤ d.size ∧ dk.size = d.size ∧ Aside (SB enc k w0 blk off dk wr) ∧ Aside (Left m t i j dk))
  case atStart => exact ⟨m - a, b - m, d, by rw [C1.out], by rw [C2.out], by omega, by omega, by omega, by omega, by omega, rfl, S0, HT⟩
  case round =>
    clear S0 HT
    obtain ⟨i, j, dk, rfl, rfl, hi, hj, hkx, him, hmj, hds, S1, HL⟩ := hrel
    have call : ∀ (x y n : Nat), x + n ≤ d.size → y + n ≤ d.size → Calls P 183 #[.slice (some ⟨blk, off, none⟩) d.size cap, .int .i64 x, .int .i64 y, .int .i64 n, .func (.func g) #[] cb] wr fun e w' => e = .returned (.tuple #[]) ∧ SB enc k w0 blk off (swpR x y 0 n dk) w' := by
      intro x y n hx hy
      rw [← hds]
      exact swapRange_w LL.out k aE zE enc g cb blk off cap x y n d0 dk w0 wr R (by omega) S1.out (by omega) (by omega) (by omega)
    have CALL := aside (call)
    clear call
    by_cases he : i = j
    · subst he
      have c3 : ((m : Int) - (i : Int)) = ((m - i : Nat) : Int) := by omega
      have hc := CALL.out (m - i) m i (by omega) (by omega)
      have HL2 := aside (left_same HL.out)
      clear CALL HL
      go_wp2_with (go_at_fn 183; refine hc.mono ?_; rintro e w1 ⟨rfl, hw1⟩)
      go_end0
      exact ⟨rfl, _, HL2.out, by rw [swpR_size]; exact hds, hw1⟩
    · by_cases hg : j < i
      · have c3 : ((m : Int) - (i : Int)) = ((m - i : Nat) : Int) := by omega
        have hc := CALL.out (m - i) m j (by omega) (by omega)
        have HL2 := aside (left_great HL.out hg)
        clear CALL HL
        go_wp2_with (go_at_fn 183; refine hc.mono ?_; rintro e w1 ⟨rfl, hw1⟩)
        have S2 := aside (hw1)
        clear hw1 hc
        go_roundg (i - j + j)
        case measure => omega
        case rel => exact ⟨i - j, j, _, by go_num, rfl, by omega, by omega, rfl, by omega, by omega, by rw [swpR_size]; exact hds, S2, HL2⟩
      · have c3 : ((m : Int) - (i : Int)) = ((m - i : Nat) : Int) := by omega
        have c4 : ((m : Int) + (j : Int) - (i : Int)) = ((m + j - i : Nat) : Int) := by omega
        have hc := CALL.out (m - i) (m + j - i) i (by omega) (by omega)
        have HL2 := aside (left_less HL.out (by omega))
        clear CALL HL
        go_wp2_with (go_at_fn 183; refine hc.mono ?_; rintro e w1 ⟨rfl, hw1⟩)
        have S2 := aside (hw1)
        clear hw1 hc
        go_roundg (i + (j - i))
        case measure => omega
        case rel => exact ⟨i, j - i, _, rfl, by go_num, by omega, by omega, rfl, by omega, by omega, by rw [swpR_size]; exact hds, S2, HL2⟩
end Go.Proofs.YtcmiehddjgfjaaaGreat.St.GSl
