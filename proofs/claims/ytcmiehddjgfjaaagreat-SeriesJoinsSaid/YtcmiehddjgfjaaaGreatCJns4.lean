/- A part of the proof of LawSeriesJoins: contracts and plain laws, put together by a program of this session. -/
import Derived.Test.YtcmiehddjgfjaaaGreatCJns3
import Derived.Laws.IdiomCopy
import Derived.Lib.SlBuf
import Derived.Deep.RegionLaw
import Derived.BigQuiet
import Derived.Laws.Rows
import Derived.Deep.LoopGhost
import Derived.Test.YtcmiehddjgfjaaaGreatProg
import Derived.Below
import Derived.Deep.Draws
import Derived.Deep.AppendLies
import Derived.Maps.AppendAt
import Derived.OwnWalk
import Derived.Laws.BytesArg
import Derived.Laws.MakeOwn
import Derived.Laws.OwnMore
import Derived.Deep.OwnRows
import Derived.Tactics
import Derived.Lib.ConvBytes
import Derived.Laws.Slices
import Derived.WalkKit
import Derived.KernelRfl
import Derived.RowKit3
import Derived.Deep.QuietTactic
import Derived.WideLaws
import Derived.Deep.DeepCutAuto
import Derived.Deep.CutBlock
import Derived.Deep.RegionHeld3
import Derived.Lib.AppendStr
import Derived.ArgAppend
import Derived.OrdersHeld
import Derived.Laws.BitsLemmas
import Derived.RowKit
set_option linter.unusedVariables false
set_option linter.unusedSimpArgs false
set_option linter.unusedSectionVars false
set_option maxHeartbeats 8000000
set_option maxRecDepth 100000
namespace Go.Proofs.YtcmiehddjgfjaaaGreat.A
open Go.RowKit Go.Proofs.YtcmiehddjgfjaaaGreatW.PrintWords Go.Proofs.YtcmiehddjgfjaaaGreatW.PrintLast Go.Proofs.YtcmiehddjgfjaaaGreatW.PrintMore
/-- copy of elements of whatever size, all of them in cells. -/
theorem run_copy_k {P : Program} (w : World) (dT sT ty elem : TypeId) (b o dLen dCap : Nat) (a : Addr) (sLen sCap sz : Nat) (cs : List Value)
  (hu : P.underlying dT = some (.slice elem)) (hs : (P.info? elem).map (·.size) = some sz) (hn : cs.length = Nat.min sLen dLen * sz)
  (hsrc : ∀ j v, cs[j]? = some v → w.cell? (a.add j) = some v) (hc : ∀ j, j < cs.length → (w.cell? ⟨b, o + j, none⟩).isSome = true) (hf : ∀ j, j < cs.length → w.frozen? ⟨b, o + j, none⟩ = false) (h1 : ∀ v ∈ cs, v.oneCell' = true) :
  (Builtin.copy_ #[dT, sT] ty #[.slice (some ⟨b, o, none⟩) dLen dCap, .slice (some a) sLen sCap]).run P w = .ok (goInt (Nat.min sLen dLen)) (w.setCells b o cs) := by
 have hl := run_loadCells_list (P := P) w a cs hsrc
 have hst := run_storeCells_cells (P := P) b o cs 0 w (by simpa using hc) (by simpa using hf) h1
 cases hq : P.info? elem with
 | none => simp [hq] at hs
 | some i =>
  have hi : i.size = sz := by simpa [hq] using hs
  simp [Builtin.copy_, run_underlying hu, Builtin.lenOf, Builtin.firstCells, sizeOf, typeInfo, hq, hi, ← hn, hl, hst]
theorem mul_one (m : Int) (h0 : 0 ≤ m) (h : m ≤ 2) (w : World) : Calls Tryz.prog 150 #[.int .u64 1, .int .u64 m] w fun e w' => e = .returned (.tuple #[.int .u64 0, .int .u64 m]) ∧ Below w.heap.size w w' := by
 have hm := mul128 1 m (by omega) (by omega) h0 (by omega)
 have e1 : (1 * m) / 18446744073709551616 = 0 := by omega
 have e2 : (1 * m) % 18446744073709551616 = m := by omega
 rw [e1, e2] at hm
 have HC := Sd.mk (bits_Mul64.calls 1 m 0 m w hm)
 clear hm e1 e2
 go_enter Tryz.func150, Tryz.ntmps150
 go_wp2_with (go_at_call 163; refine HC.out.mono ?_; rintro e w1 ⟨rfl, ⟨n, rfl⟩⟩)
 go_ret2
 exact ⟨rfl, pbd (Below.refl _ _) n⟩
theorem info_size {P : Program} {e : TypeId} {z : Value} {n b : Nat} (h : (P.info? e).map (fun i => (i.zero, i.size, i.bytes)) = some (some z, n, b)) : (P.info? e).map (·.size) = some n := by
 obtain ⟨i, hi, _, h2, _⟩ := info_parts h
 rw [hi]; exact congrArg some h2
/-- A row of two values' cells, laid just now. -/
theorem row4 {W : World} {g : Nat} {a1 a2 b1 b2 : Int} (h : W.heap[g]? = some (.cells #[.int .i64 a1, .int .i64 a2, .int .i64 b1, .int .i64 b2] 25 (0, 0))) : Kd.C k25 W (some ⟨g, 0, none⟩) 2 [⟨a1, a2⟩, ⟨b1, b2⟩] := by
 refine ⟨rfl, by simp, fun _ => ⟨_, rfl, fun j p hp => ?_⟩⟩
 match j, hp with
 | 0, hp =>
  injection hp with hp
  subst hp
  exact ⟨[.int .i64 a1, .int .i64 a2], rfl, k25_mk _ _, fun i u hu => by
   match i, hu with
   | 0, hu => exact (blk_cell h 0).trans hu
   | 1, hu => exact (blk_cell h 1).trans hu
   | i + 2, hu => simp at hu⟩
 | 1, hp =>
  injection hp with hp
  subst hp
  exact ⟨[.int .i64 b1, .int .i64 b2], rfl, k25_mk _ _, fun i u hu => by
   match i, hu with
   | 0, hu => exact (blk_cell h 2).trans hu
   | 1, hu => exact (blk_cell h 3).trans hu
   | i + 2, hu => simp at hu⟩
 | j + 2, hp => simp at hp
theorem row2 {W : World} {g : Nat} {a1 a2 : Int} (h : W.heap[g]? = some (.cells #[.int .i64 a1, .int .i64 a2] 25 (0, 0))) : Kd.C k25 W (some ⟨g, 0, none⟩) 1 [⟨a1, a2⟩] := by
 refine ⟨rfl, by simp, fun _ => ⟨_, rfl, fun j p hp => ?_⟩⟩
 match j, hp with
 | 0, hp =>
  injection hp with hp
  subst hp
  exact ⟨[.int .i64 a1, .int .i64 a2], rfl, k25_mk _ _, fun i u hu => by
   match i, hu with
   | 0, hu => exact (blk_cell h 0).trans hu
   | 1, hu => exact (blk_cell h 1).trans hu
   | i + 2, hu => simp at hu⟩
 | j + 1, hp => simp at hp
theorem made_2 : madeCells (Value.agg #[.int .i64 0, .int .i64 0]).cells (Int.toNat 1 * 2) = #[.int .i64 0, .int .i64 0] := by kernel_rfl
theorem made_4 : madeCells (Value.agg #[.int .i64 0, .int .i64 0]).cells (Int.toNat 2 * 2) = #[.int .i64 0, .int .i64 0, .int .i64 0, .int .i64 0] := by kernel_rfl
theorem made2 (W : World) : (Instr.makeSlice 47 (.int .i64 1) (.int .i64 1)).run Tryz.prog W = .ok (.slice (some ⟨W.heap.size, 0, none⟩) 1 1) (W.alloc (.cells #[.int .i64 0, .int .i64 0] 25)) := by
 obtain ⟨i, hi, hz, h1, h2⟩ := info_parts info25
 have h := run_makeSlice (P := Tryz.prog) W 47 25 i _ Tryz.underlying47 hi hz .i64 .i64 1 1 (by omega) (by omega) (by rw [h1]; decide) (by rw [h2]; decide) (by omega)
 rw [h1, made_2] at h
 exact h
theorem made4 (W : World) : (Instr.makeSlice 47 (.int .i64 2) (.int .i64 2)).run Tryz.prog W = .ok (.slice (some ⟨W.heap.size, 0, none⟩) 2 2) (W.alloc (.cells #[.int .i64 0, .int .i64 0, .int .i64 0, .int .i64 0] 25)) := by
 obtain ⟨i, hi, hz, h1, h2⟩ := info_parts info25
 have h := run_makeSlice (P := Tryz.prog) W 47 25 i _ Tryz.underlying47 hi hz .i64 .i64 2 2 (by omega) (by omega) (by rw [h1]; decide) (by rw [h2]; decide) (by omega)
 rw [h1, made_4] at h
 exact h
/-- A block's cells written over, as a block. -/
theorem set_blk {W : World} {g o : Nat} {t : TypeId} {cs : Array Value} {x : Value} (h : W.heap[g]? = some (.cells cs t (0, 0))) : (W.setCell ⟨g, o, none⟩ x).heap[g]? = some (.cells (cs.setIfInBounds o x) t (0, 0)) := by
 rw [setCell_eq_setRow W g o cs t (0, 0) x h]
 exact setRow_heap W g cs _ t (0, 0) h
theorem set2_0 {W : World} {g : Nat} {t : TypeId} {a b c d x y : Value} (h : W.heap[g]? = some (.cells #[a, b, c, d] t (0, 0))) : (W.setCells g 0 [x, y]).heap[g]? = some (.cells #[x, y, c, d] t (0, 0)) := set_blk (set_blk h)
theorem set2_1 {W : World} {g : Nat} {t : TypeId} {a b c d x y : Value} (h : W.heap[g]? = some (.cells #[a, b, c, d] t (0, 0))) : (W.setCells g 2 [x, y]).heap[g]? = some (.cells #[a, b, x, y] t (0, 0)) := set_blk (set_blk h)
theorem set2_2 {W : World} {g : Nat} {t : TypeId} {a b x y : Value} (h : W.heap[g]? = some (.cells #[a, b] t (0, 0))) : (W.setCells g 0 [x, y]).heap[g]? = some (.cells #[x, y] t (0, 0)) := set_blk (set_blk h)
theorem below_set2 {B : Nat} {w W : World} {g o : Nat} {x y : Value} (h : Below B w W) (hg : B ≤ g) : Below B w (W.setCells g o [x, y]) := (h.setCell (p := ⟨g, o, none⟩) hg x).setCell (p := ⟨g, o + 1, none⟩) hg y
/-- copy, as one step of a region that draws. -/
theorem step_copy_k {P : Program} {ops : Array Oper} {o : Oper} {a : Act} {w : World} {K : Act → World → Prop} {Q : Exit → Act → World → Prop} {E : Prop} (hg : o.guard = none) (d s : Operand) (dT sT elem : TypeId)
  (ho : o.op = .call { callee := .builtin .copy, args := #[d, s], argTypes := #[dT, sT] }) (hu : P.underlying dT = some (.slice elem)) {sz : Nat} (hsz : (P.info? elem).map (·.size) = some sz)
  (b off dLen dCap : Nat) (hd : a.eval d = .slice (some ⟨b, off, none⟩) dLen dCap) (ad : Addr) (sLen sCap : Nat) (hs : a.eval s = .slice (some ad) sLen sCap) (cs : List Value) (hn : cs.length = Nat.min sLen dLen * sz)
  (hsrc : ∀ j v, cs[j]? = some v → w.cell? (ad.add j) = some v) (hc : ∀ j, j < cs.length → (w.cell? ⟨b, off + j, none⟩).isSome = true) (hf : ∀ j, j < cs.length → w.frozen? ⟨b, off + j, none⟩ = false) (h1 : ∀ v ∈ cs, v.oneCell' = true)
  (hK : K (a.put o.dst (goInt (Nat.min sLen dLen))) (w.setCells b off cs)) :
  if Region.wanted o (yielded ops a.tmps) = true then Oper.wp P o a w K Q else E := by
 have hw : Region.wanted o (yielded ops a.tmps) = true := by simp [Region.wanted, hg]
 rw [if_pos hw]
 have hrun := run_copy_k (P := P) w dT sT o.type elem b off dLen dCap ad sLen sCap sz cs hu hsz hn hsrc hc hf h1
 unfold Oper.wp
 simp [execOp, ho, resolve, invoke, builtin, hd, hs, hrun, Result.andThen]
 exact hK
theorem repeat1_calls (b : Nat) (x y : Int) (w : World) (p0 : w.cell? ⟨b, 0, none⟩ = some (.int .i64 x)) (p1 : w.cell? ⟨b, 1, none⟩ = some (.int .i64 y)) :
  Calls Tryz.prog 101 #[.slice (some ⟨b, 0, none⟩) 1 1, .int .i64 1] w fun e w' => ∃ A, e = .returned (.slice A 1 1) ∧ Kd.C k25 w' A 1 [⟨x, y⟩] ∧ Below w.heap.size w w' := by
 have HM := Sd.mk (mul_one 1 (by omega) (by omega) w)
 have hmk := made2
 go_enter Tryz.func101, Tryz.ntmps101
 go_wp2_with fail
 refine HM.out.mono ?_
 rintro e w1 ⟨rfl, hb1⟩
 replace p0 := pw_cell_below (bal hb1 (.cells #[.int .i64 0, .int .i64 0] 25)) p0
 replace p1 := pw_cell_below (bal hb1 (.cells #[.int .i64 0, .int .i64 0] 25)) p1
 have HB := Sd.mk (bal hb1 (.cells #[.int .i64 0, .int .i64 0] 25))
 have X := Sd.mk (blk_new w1 (.cells #[.int .i64 0, .int .i64 0] 25))
 have HS := Sd.mk hb1.size
 clear hb1
 have HP := Sd.mk (And.intro p0 p1)
 clear p0 p1
 obtain ⟨W2, hcp, hX2, hb2⟩ : ∃ W2, (Builtin.copy_ #[47, 47] 3 #[.slice (some ⟨w1.heap.size, 0, none⟩) 1 1, .slice (some ⟨b, 0, none⟩) 1 1]).run Tryz.prog (w1.alloc (.cells #[.int .i64 0, .int .i64 0] 25)) = .ok (goInt 1) W2 ∧ W2.heap[w1.heap.size]? = some (.cells #[.int .i64 x, .int .i64 y] 25 (0, 0)) ∧ Below w.heap.size w W2 := by
  refine ⟨_, run_copy_k _ _ _ _ 25 w1.heap.size 0 1 1 ⟨b, 0, none⟩ 1 1 2 [.int .i64 x, .int .i64 y] Tryz.underlying47 (info_size info25) rfl ?_ ?_ ?_ ?_, set2_2 X.out, below_set2 HB.out HS.out⟩
  ·intro j v hj
   rw [add_at, Nat.zero_add]
   match j, hj with
   | 0, hj => injection hj with hj; subst hj; exact HP.out.1
   | 1, hj => injection hj with hj; subst hj; exact HP.out.2
   | j + 2, hj => simp at hj
  ·intro j hj
   rw [Nat.zero_add, blk_cell X.out j]
   match j, hj with
   | 0, _ => rfl
   | 1, _ => rfl
   | j + 2, hj => exact absurd (show j + 2 < 2 from hj) (by omega)
  ·intro j hj
   exact blk_frozen X.out _
  ·intro v hv
   simp only [List.mem_cons, List.not_mem_nil, or_false] at hv
   rcases hv with rfl | rfl <;> rfl
 have HX2 := Sd.mk hX2
 have HB2 := Sd.mk hb2
 clear hX2 hb2 HP X
 go_wp2
 go_loopg [8] 0 (fun kq v8 w' => v8 = .int .i64 1 ∧ w' = W2)
 case atStart => exact ⟨rfl, rfl⟩
 case round =>
  obtain ⟨rfl, rfl⟩ := hrel
  go_wp2
  go_ret
  exact ⟨_, rfl, row2 HX2.out, HB2.out⟩
theorem repeat2_calls (b : Nat) (x y : Int) (w : World) (p0 : w.cell? ⟨b, 0, none⟩ = some (.int .i64 x)) (p1 : w.cell? ⟨b, 1, none⟩ = some (.int .i64 y)) :
  Calls Tryz.prog 101 #[.slice (some ⟨b, 0, none⟩) 1 1, .int .i64 2] w fun e w' => ∃ A, e = .returned (.slice A 2 2) ∧ Kd.C k25 w' A 2 [⟨x, y⟩, ⟨x, y⟩] ∧ Below w.heap.size w w' := by
 have HM := Sd.mk (mul_one 2 (by omega) (by omega) w)
 have hmk := made4
 go_enter Tryz.func101, Tryz.ntmps101
 go_wp2_with fail
 refine HM.out.mono ?_
 rintro e w1 ⟨rfl, hb1⟩
 replace p0 := pw_cell_below (bal hb1 (.cells #[.int .i64 0, .int .i64 0, .int .i64 0, .int .i64 0] 25)) p0
 replace p1 := pw_cell_below (bal hb1 (.cells #[.int .i64 0, .int .i64 0, .int .i64 0, .int .i64 0] 25)) p1
 have HB := Sd.mk (bal hb1 (.cells #[.int .i64 0, .int .i64 0, .int .i64 0, .int .i64 0] 25))
 have X := Sd.mk (blk_new w1 (.cells #[.int .i64 0, .int .i64 0, .int .i64 0, .int .i64 0] 25))
 have HS := Sd.mk hb1.size
 clear hb1
 have HP := Sd.mk (And.intro p0 p1)
 clear p0 p1
 obtain ⟨W2, hcp, hX2, hb2⟩ : ∃ W2, (Builtin.copy_ #[47, 47] 3 #[.slice (some ⟨w1.heap.size, 0, none⟩) 2 2, .slice (some ⟨b, 0, none⟩) 1 1]).run Tryz.prog (w1.alloc (.cells #[.int .i64 0, .int .i64 0, .int .i64 0, .int .i64 0] 25)) = .ok (goInt 1) W2 ∧ W2.heap[w1.heap.size]? = some (.cells #[.int .i64 x, .int .i64 y, .int .i64 0, .int .i64 0] 25 (0, 0)) ∧ Below w.heap.size w W2 := by
  refine ⟨_, run_copy_k _ _ _ _ 25 w1.heap.size 0 2 2 ⟨b, 0, none⟩ 1 1 2 [.int .i64 x, .int .i64 y] Tryz.underlying47 (info_size info25) rfl ?_ ?_ ?_ ?_, set2_0 X.out, below_set2 HB.out HS.out⟩
  ·intro j v hj
   rw [add_at, Nat.zero_add]
   match j, hj with
   | 0, hj => injection hj with hj; subst hj; exact HP.out.1
   | 1, hj => injection hj with hj; subst hj; exact HP.out.2
   | j + 2, hj => simp at hj
  ·intro j hj
   rw [Nat.zero_add, blk_cell X.out j]
   match j, hj with
   | 0, _ => rfl
   | 1, _ => rfl
   | j + 2, hj => exact absurd (show j + 2 < 2 from hj) (by omega)
  ·intro j hj
   exact blk_frozen X.out _
  ·intro v hv
   simp only [List.mem_cons, List.not_mem_nil, or_false] at hv
   rcases hv with rfl | rfl <;> rfl
 have HX2 := Sd.mk hX2
 have HB2 := Sd.mk hb2
 clear hX2 hb2 HP X
 go_wp2
 go_loopw [8] (fun v8 wr => (v8 = .int .i64 1 ∧ wr = W2) ∨ (v8 = .int .i64 2 ∧ wr.heap[w1.heap.size]? = some (.cells #[.int .i64 x, .int .i64 y, .int .i64 x, .int .i64 y] 25 (0, 0)) ∧ Below w.heap.size w wr)) (fun v8 _ => 2 - (intOf v8).toNat)
 case atStart => exact .inl ⟨rfl, rfl⟩
 case round =>
  rcases hrel with ⟨rfl, rfl⟩ | ⟨rfl, hx, hb⟩
  ·have HX3 := Sd.mk (fun n => blk_drewN HX2.out n)
   clear hcp hmk
   have hw2 : IntKind.i64.wrap 2 = 2 := by decide
   go_wp2_with fail
   go_region_law (refine step_copy_k rfl (.tmp 41) (.tmp 44) 47 47 25 rfl Tryz.underlying47 (info_size info25) w1.heap.size 2 1 1 (by go_simp) ⟨w1.heap.size, 0, none⟩ 1 2 (by go_simp) [.int .i64 x, .int .i64 y] rfl (fun j v hj => by
    rw [add_at, Nat.zero_add]
    match j, hj with
    | 0, hj => exact (blk_cell HX2.out 0).trans hj
    | 1, hj => exact (blk_cell HX2.out 1).trans hj
    | j + 2, hj => simp at hj) (fun j hj => by
    match j, hj with
    | 0, _ => exact (congrArg Option.isSome (blk_cell HX2.out 2)).trans rfl
    | 1, _ => exact (congrArg Option.isSome (blk_cell HX2.out 3)).trans rfl
    | j + 2, hj => exact absurd (show j + 2 < 2 from hj) (by omega)) (fun j _ => blk_frozen HX2.out _) (fun v hv => by
    simp only [List.mem_cons, List.not_mem_nil, or_false] at hv
    rcases hv with rfl | rfl <;> rfl) ?_)
   go_simp
   go_wp2
   go_roundw
   case rel => exact .inr ⟨rfl, set2_1 HX2.out, below_set2 (HB2.out.trans ((Below.refl _ wr).drew.mono HB2.out.size)) HS.out⟩
   case measure => simp [intOf]
  ·have HX4 := Sd.mk hx
   have HB4 := Sd.mk hb
   clear hx hb hcp hmk
   go_wp2
   go_ret
   exact ⟨_, rfl, row4 HX4.out, HB4.out⟩
theorem num0_calls (w : World) : Calls Tryz.prog 76 #[.int .i64 0] w fun e w' => e = .returned (.agg #[.int .i64 1, .int .i64 0]) ∧ Below w.heap.size w w' := by
 exact v_Num.calls 0 1 0 w (num_is 0)
theorem knows1_calls (op : ByteArray) (w : World) : Calls Tryz.prog 62 #[.string op, .int .i64 1] w fun e w' => e = .returned (.bool (decide ((vDo op [(1, 0)]).2 = 0))) ∧ Below w.heap.size w w' := by
 rcases hr : vDo op [(1, 0)] with ⟨⟨r1, r2⟩, r3⟩
 have hD := fun (w1 : World) (A : Option Addr) (h : Kd.C k25 w1 A 1 [⟨1, 0⟩]) => v_Do.calls op A 1 [⟨1, 0⟩] r1 r2 r3 w1 h (Nat.le_refl _) (by show some ((vDo op [(1, 0)]).1.1, (vDo op [(1, 0)]).1.2, (vDo op [(1, 0)]).2) = _; rw [hr])
 have HD := Sd.mk hD
 clear hD hr
 go_enter Tryz.func62, Tryz.ntmps62
 go_wp2_with fail
 refine (num0_calls w).mono ?_
 rintro e w1 ⟨rfl, hb1⟩
 have X := blk_new w1 (.cells #[.int .i64 1, .int .i64 0] 25)
 have HR := Sd.mk (repeat1_calls w1.heap.size 1 0 _ ((blk_cell X 0).trans rfl) ((blk_cell X 1).trans rfl))
 have HB := Sd.mk (bal hb1 (.cells #[.int .i64 1, .int .i64 0] 25))
 clear X hb1
 go_wp2_with fail
 refine HR.out.mono ?_
 rintro e w2 ⟨A, rfl, hC, hb2⟩
 have HC := Sd.mk (HD.out w2 A hC)
 have HB2 := Sd.mk (HB.out.trans (hb2.mono HB.out.size))
 clear hC hb2
 go_wp2_with fail
 refine HC.out.mono ?_
 rintro e w3 ⟨rfl, hb3⟩
 have HB3 := Sd.mk (HB2.out.trans (hb3.mono HB2.out.size))
 clear hb3
 by_cases h0 : r3 = 0
 ·subst h0
  go_wp2
  go_ret
  exact ⟨rfl, HB3.out.alloc HB3.out.size _⟩
 ·have n0 : (r3 == 0) = false := by simpa using h0
  have HZ := Sd.mk (decide_eq_false h0)
  clear h0
  go_wp2
  go_ret
  exact ⟨by rw [HZ.out]; rfl, HB3.out.alloc HB3.out.size _⟩
theorem knows2_calls (op : ByteArray) (w : World) : Calls Tryz.prog 62 #[.string op, .int .i64 2] w fun e w' => e = .returned (.bool (decide ((vDo op [(1, 0), (1, 0)]).2 = 0))) ∧ Below w.heap.size w w' := by
 rcases hr : vDo op [(1, 0), (1, 0)] with ⟨⟨r1, r2⟩, r3⟩
 have hD := fun (w1 : World) (A : Option Addr) (h : Kd.C k25 w1 A 2 [⟨1, 0⟩, ⟨1, 0⟩]) => v_Do.calls op A 2 [⟨1, 0⟩, ⟨1, 0⟩] r1 r2 r3 w1 h (Nat.le_refl _) (by show some ((vDo op [(1, 0), (1, 0)]).1.1, (vDo op [(1, 0), (1, 0)]).1.2, (vDo op [(1, 0), (1, 0)]).2) = _; rw [hr])
 have HD := Sd.mk hD
 clear hD hr
 go_enter Tryz.func62, Tryz.ntmps62
 go_wp2_with fail
 refine (num0_calls w).mono ?_
 rintro e w1 ⟨rfl, hb1⟩
 have X := blk_new w1 (.cells #[.int .i64 1, .int .i64 0] 25)
 have HR := Sd.mk (repeat2_calls w1.heap.size 1 0 _ ((blk_cell X 0).trans rfl) ((blk_cell X 1).trans rfl))
 have HB := Sd.mk (bal hb1 (.cells #[.int .i64 1, .int .i64 0] 25))
 clear X hb1
 go_wp2_with fail
 refine HR.out.mono ?_
 rintro e w2 ⟨A, rfl, hC, hb2⟩
 have HC := Sd.mk (HD.out w2 A hC)
 have HB2 := Sd.mk (HB.out.trans (hb2.mono HB.out.size))
 clear hC hb2
 go_wp2_with fail
 refine HC.out.mono ?_
 rintro e w3 ⟨rfl, hb3⟩
 have HB3 := Sd.mk (HB2.out.trans (hb3.mono HB2.out.size))
 clear hb3
 by_cases h0 : r3 = 0
 ·subst h0
  go_wp2
  go_ret
  exact ⟨rfl, HB3.out.alloc HB3.out.size _⟩
 ·have n0 : (r3 == 0) = false := by simpa using h0
  have HZ := Sd.mk (decide_eq_false h0)
  clear h0
  go_wp2
  go_ret
  exact ⟨by rw [HZ.out]; rfl, HB3.out.alloc HB3.out.size _⟩
open Go.Proofs.YtcmiehddjgfjaaaGreat.St Go.Proofs.YtcmiehddjgfjaaaGreat.Stable
theorem info25s : (Tryz.prog.info? 25).map (·.size) = some 2 := by kernel_rfl
theorem FK_val {W : World} {ok : Nat → Prop} {x : Ser} {v : Value} {k n : Int} (h : Kd.FK k37 W ok x [v, .int .i64 k, .int .i64 n]) (y : S25) : Kd.FK k37 W ok ⟨x.f0, y⟩ [v, .int .i64 y.f0, .int .i64 y.f1] := fun W' hW => by
 obtain ⟨A0, c0, e, l0, g0⟩ := k37_open (h W' hW)
 injection e with e _
 subst e
 exact k37_mk W' (⟨x.f0, y⟩ : Ser) l0 g0
/-- Element i of a row of the call's own, read. -/
theorem own_at {W : World} {base g n c : Nat} {ok : Nat → Prop} {xs : List Ser} (HO : Kd.N k37 37 W base ok (.slice (some ⟨g, 0, none⟩) n c) xs) (i : Nat) (hi : i < xs.length) :
  ∃ A0 c0, W.cell? ⟨g, i * 3, none⟩ = some (.slice A0 (xs[i]).f0.length c0) ∧ W.cell? ⟨g, i * 3 + 1, none⟩ = some (.int .i64 (xs[i]).f1.f0) ∧ W.cell? ⟨g, i * 3 + 2, none⟩ = some (.int .i64 (xs[i]).f1.f1) ∧ (xs[i]).f0.length ≤ c0 ∧ Kd.C k62 W A0 (xs[i]).f0.length (xs[i]).f0 ∧ Kd.FK k37 W (fun k => ok k ∧ k ≠ g) xs[i] [.slice A0 (xs[i]).f0.length c0, .int .i64 (xs[i]).f1.f0, .int .i64 (xs[i]).f1.f1] := by
 have hn := (Kd.N_reads' HO).1
 obtain ⟨cs, hl, hK, hc, _⟩ := Kd.N_elem HO z37 (i : Int) (by omega) (by omega)
 rw [Int.toNat_natCast, List.getD_eq_getElem?_getD, List.getElem?_eq_getElem hi] at hK
 rw [Int.toNat_natCast] at hc
 obtain ⟨A0, c0, rfl, l0, g0⟩ := k37_open (Kd.FK_now hK)
 exact ⟨A0, c0, hc 0 _ rfl, hc 1 _ rfl, hc 2 _ rfl, l0, g0, hK⟩
/-- l[i].Value = y, in a row of the call's own. -/
theorem store_val {ops : Array Oper} {rest : List Oper} {o : Oper} {a : Act} {Q : Exit → Act → World → Prop} {w0 W : World} {base : Nat} (x' y' : Operand) (hN : o.dst = none) (hgd : o.guard = none) (ho : o.op = .store 25 x' y') {g n c o' : Nat} (i : Nat) (xs : List Ser) (y : S25)
  (haddr : a.eval x' = .pointer (some ⟨g, o', none⟩)) (hoff : o' = i * 3 + 1) (hx : a.eval y' = .agg #[.int .i64 y.f0, .int .i64 y.f1])
  (HO : Kd.N k37 37 W base (fun _ => True) (.slice (some ⟨g, 0, none⟩) n c) xs) (hi : i < xs.length) (HB : Below base w0 W)
  (h : ∀ w1, Kd.N k37 37 w1 base (fun _ => True) (.slice (some ⟨g, 0, none⟩) n c) (xs.set i ⟨(xs[i]).f0, y⟩) → Below base w0 w1 → W.grownBy w1 (some g) → wpList Tryz.prog ops Q rest a w1) : wpList Tryz.prog ops Q (o :: rest) a W := by
 obtain ⟨A0, c0, o0, o1, o2, l0, g0, hK⟩ := own_at HO i hi
 have hn := (Kd.N_reads' HO).1
 refine Kd.N_store k37 (w0 := w0) base hN hgd 25 x' y' ho 37 (i : Int) 1 xs ⟨(xs[i]).f0, y⟩ (.agg #[.int .i64 y.f0, .int .i64 y.f1]) [.int .i64 y.f0, .int .i64 y.f1] [.slice A0 (xs[i]).f0.length c0, .int .i64 (xs[i]).f1.f0, .int .i64 (xs[i]).f1.f1] (fun _ => True) (fun k => True ∧ k ≠ g) haddr (by rw [hoff]; rfl) hx (by simp [Value.cells]) info25s ?_ HO (by omega) (by omega) rfl ?_ (Nat.le_refl 3) (FK_val hK y) (fun _ hk => hk) HB (by rw [Int.toNat_natCast]; exact h)
 ·intro q hq
  simp only [List.mem_cons, List.not_mem_nil, or_false] at hq
  rcases hq with rfl | rfl <;> rfl
 ·intro m u hu
  rw [Int.toNat_natCast]
  match m, hu with
  | 0, hu => injection hu with hu; subst hu; exact o0
  | 1, hu => injection hu with hu; subst hu; exact o1
  | 2, hu => injection hu with hu; subst hu; exact o2
  | m + 3, hu => simp at hu
def mapV (op : ByteArray) (s : Ser) : Ser := ⟨s.f0, ⟨(vDo op [(s.f1.f0, s.f1.f1)]).1.1, (vDo op [(s.f1.f0, s.f1.f1)]).1.2⟩⟩
/-- An operation of each value. -/
def vMap (op : ByteArray) (l : List Ser) : List Ser × Int := if (vSort l).2 = 0 then (if (vDo op [(1, 0)]).2 = 0 then ((vSort l).1.map (mapV op), 0) else ([], 2)) else ([], (vSort l).2)
theorem mapped_step {α : Type} (f : α → α) (s : List α) (i : Nat) (hi : i < s.length) : ((s.take i).map f ++ s.drop i).set i (f s[i]) = (s.take (i + 1)).map f ++ s.drop (i + 1) := by
 have hl : ((s.take i).map f).length = i := by rw [List.length_map, List.length_take]; omega
 rw [List.set_append_right _ _ (by omega), hl, Nat.sub_self, List.drop_eq_getElem_cons hi, List.set_cons_zero, List.take_add_one, List.getElem?_eq_getElem hi, List.map_append, List.append_assoc]
 rfl
theorem mapped_at {α : Type} (f : α → α) (s : List α) (i : Nat) (hi : i < s.length) : ∃ h : i < ((s.take i).map f ++ s.drop i).length, ((s.take i).map f ++ s.drop i)[i] = s[i] := by
 have hl : ((s.take i).map f).length = i := by rw [List.length_map, List.length_take]; omega
 refine ⟨by rw [List.length_append, hl, List.length_drop]; omega, ?_⟩
 rw [List.getElem_append_right (by omega), List.getElem_drop]
 congr 1
 omega
theorem smap_calls (op : ByteArray) (A : Option Addr) (c : Nat) (l : List Ser) (hl : SersOk l) (w : World) (hr : Kd.C k37 w A l.length l) :
  Calls Tryz.prog 21 #[.string op, .slice A l.length c] w fun e w' => ∃ v : Value, e = .returned (.tuple #[v, .int .i64 (vMap op l).2]) ∧ Kd.N k37 37 w' w.heap.size (fun _ => True) v (vMap op l).1 ∧ Below w.heap.size w w' := by
 have HSo := Sd.mk (ssort_calls A c l hl w hr)
 unfold vMap
 have hlen : (vSort l).1.length ≤ l.length := by
  unfold vSort
  repeat' split
  all_goals first | exact Nat.zero_le _ | exact Nat.le_of_eq (isort_length l)
 have hmx : l.length < 3518437208883 := hl.1
 generalize vSort l = sr at HSo hlen ⊢
 obtain ⟨s, e0⟩ := sr
 simp only at HSo hlen ⊢
 have hmx2 : s.length < 3518437208883 := by omega
 clear hlen hmx
 have mixed : Tryz.prog.follows .mixedOrders = true := by kernel_rfl
 have hkn := fun w1 => knows1_calls op w1
 generalize (vDo op [(1, 0)]).2 = kn at hkn ⊢
 have HK := Sd.mk hkn
 clear hkn
 by_cases h0 : e0 = 0
 ·subst h0
  rw [if_pos rfl]
  by_cases hk : kn = 0
  ·rw [if_pos hk]
   rw [decide_eq_true hk] at HK
   clear hk
   go_enter Tryz.func21, Tryz.ntmps21
   go_wp2_with fail
   refine HSo.out.mono ?_
   rintro e w1 ⟨v, rfl, hv, hb1⟩
   have HV := Sd.mk hv
   have HB := Sd.mk hb1
   obtain ⟨A3, c3, rfl, hc3, hC3⟩ := Kd.N_reads hv
   clear hv hb1 hC3
   go_wp2_with fail
   refine (HK.out w1).mono ?_
   rintro e w2 ⟨rfl, hb2⟩
   have HV2 := Sd.mk (Kd.N_below HV.out hb2)
   have HB2 := Sd.mk (HB.out.trans (hb2.mono HB.out.size))
   clear hb2 HV HB
   go_wp2
   go_loopw [24] (fun v24 wr => ∃ i : Nat, i ≤ s.length ∧ v24 = .int .i64 i ∧ Sd (Kd.N k37 37 wr w.heap.size (fun _ => True) (.slice A3 s.length c3) ((s.take i).map (mapV op) ++ s.drop i)) ∧ Sd (Below w.heap.size w wr)) (fun v24 _ => s.length - (intOf v24).toNat)
   case atStart => exact ⟨0, Nat.zero_le _, rfl, by simpa using HV2, HB2⟩
   case round =>
    clear HV2 HB2
    obtain ⟨i, hi, rfl, HO, HW⟩ := hrel
    by_cases hlt : i < s.length
    ·have b1 : (i : Int) < (s.length : Int) := by omega
     obtain ⟨hi2, hat⟩ := mapped_at (mapV op) s i hlt
     have hstep := mapped_step (mapV op) s i hlt
     obtain ⟨g, cp, hv, h5, h6, h7⟩ := Kd.N_form HO.out (by omega)
     injection hv with hA hB5 hC5
     subst hA
     clear h5 h6 h7 hB5 hC5
     generalize (s.take i).map (mapV op) ++ s.drop i = cur at HO hi2 hat hstep
     obtain ⟨A0, c0, o0, o1, o2, l0, g0, hK⟩ := own_at HO.out i hi2
     have hmv : mapV op s[i] = ⟨cur[i].f0, ⟨(vDo op [(cur[i].f1.f0, cur[i].f1.f1)]).1.1, (vDo op [(cur[i].f1.f0, cur[i].f1.f1)]).1.2⟩⟩ := by rw [hat]; rfl
     rw [hmv] at hstep
     clear hmv hat hK g0 l0
     rcases hdo : vDo op [(cur[i].f1.f0, cur[i].f1.f1)] with ⟨⟨r1, r2⟩, r3⟩
     rw [hdo] at hstep
     simp only at hstep
     have HD := Sd.mk (do1_any op cur[i].f1.f0 cur[i].f1.f1 (wr.alloc (.cells #[.slice A0 cur[i].f0.length c0, .int .i64 cur[i].f1.f0, .int .i64 cur[i].f1.f1] 37)) hdo)
     have HBx := Sd.mk (below1 wr (.cells #[.slice A0 cur[i].f0.length c0, .int .i64 cur[i].f1.f0, .int .i64 cur[i].f1.f1] 37))
     simp only [World.size_alloc] at HD
     have HST := Sd.mk hstep
     have HI := Sd.mk hi2
     have hadd : i * 3 + 1 = i * 3 + 1 := rfl
     clear hstep hdo hadd
     generalize hy0 : cur[i].f0.length = y0 at o0 HD HBx
     generalize hy1 : cur[i].f1.f0 = y1 at o1 HD HBx
     generalize hy2 : cur[i].f1.f1 = y2 at o2 HD HBx
     clear hy0 hy1 hy2
     go_wp2_with fail
     refine HD.out.mono ?_
     rintro e w3 ⟨rfl, hb3⟩
     have hb4 := HBx.out.trans (hb3.mono (Nat.le_succ _))
     have HO3 := Sd.mk (Kd.N_below HO.out hb4)
     have HW3 := Sd.mk (HW.out.trans (hb4.mono HW.out.size))
     clear hb3 hb4
     go_wp2_with ((with_reducible refine gate_ (.store 25 (.tmp 40) (.tmp 37)) rfl ?_); refine store_val (w0 := w) (base := w.heap.size) (.tmp 40) (.tmp 37) rfl rfl rfl i cur ⟨r1, r2⟩ rfl ?_ rfl HO3.out HI.out HW3.out ?_ ; (first | rfl | omega | skip); intro w5 ho hb5 hg5; have HO5 := Sd.mk ho; have HW5 := Sd.mk hb5; clear ho hb5 hg5)
     go_roundw
     case rel => exact ⟨i + 1, by omega, by go_num, ⟨by rw [← HST.out]; exact HO5.out⟩, HW5⟩
     case measure => simp [intOf]; omega
    ·have n1 : decide ((i : Int) < (s.length : Int)) = false := decide_eq_false (by omega)
     have n2 : decide (i < s.length) = false := decide_eq_false hlt
     have hi' : i = s.length := by omega
     have HE : Sd ((s.take i).map (mapV op) ++ s.drop i = s.map (mapV op)) := ⟨by rw [hi', List.take_length, List.drop_length, List.append_nil]⟩
     clear hi' hlt hi
     go_wp2
     go_ret2
     exact ⟨_, rfl, by rw [← HE.out]; exact HO.out, HW.out⟩
  ·rw [if_neg hk]
   rw [decide_eq_false hk] at HK
   clear hk
   go_enter Tryz.func21, Tryz.ntmps21
   go_wp2_with fail
   refine HSo.out.mono ?_
   rintro e w1 ⟨v, rfl, hv, hb1⟩
   have HB := Sd.mk hb1
   clear hv hb1
   go_wp2_with fail
   refine (HK.out w1).mono ?_
   rintro e w2 ⟨rfl, hb2⟩
   have HB2 := Sd.mk (HB.out.trans (hb2.mono HB.out.size))
   clear hb2
   go_wp2
   go_ret2
   exact ⟨.slice none 0 0, rfl, Kd.N_nil _ _ _ _ _, HB2.out⟩
 ·rw [if_neg h0]
  have n0 : (e0 == 0) = false := by simpa using h0
  have n1 : (e0 != 0) = true := by simpa using h0
  clear h0
  go_enter Tryz.func21, Tryz.ntmps21
  go_wp2_with fail
  refine HSo.out.mono ?_
  rintro e w1 ⟨v, rfl, hv, hb1⟩
  have HB := Sd.mk hb1
  clear hv hb1
  go_wp2
  go_ret2
  exact ⟨.slice none 0 0, rfl, Kd.N_nil _ _ _ _ _, HB.out⟩
theorem vSort_strict {l : List Ser} (h1 : ∀ x ∈ l, isSet x.f0 = true) (h2 : ∀ x ∈ l, isV (x.f1.f0, x.f1.f1)) (h3 : Strict cmpSer l) (h4 : l.length ≤ 200) : vSort l = (l, 0) := by
 have e := isort_id cmpSer3 (h3.sorted cmpSer3)
 unfold vSort
 rw [if_neg (by
  intro h
  obtain ⟨x, hx, hb⟩ := List.any_eq_true.1 h
  rw [h1 x hx] at hb
  cases hb), if_neg (by
  intro h
  obtain ⟨x, hx, hb⟩ := List.any_eq_true.1 h
  unfold badVal at hb
  rw [decide_eq_true (h2 x hx)] at hb
  cases hb), e, if_neg (by rw [adj_apart h3.apart]; simp), if_neg (by omega)]
theorem vSort_none {l : List Ser} (h : (vSort l).2 ≠ 0) : (vSort l).1 = [] := by
 unfold vSort at h ⊢
 repeat' split
 all_goals first | rfl | skip
 all_goals (rename_i h1 h2 h3 h4; rw [if_neg h1, if_neg h2, if_neg h3, if_neg h4] at h; exact absurd rfl h)
theorem sers_ok {l : List Ser} (h : (vSort l).2 = 0) : SersOk (vSort l).1 := by
 have hl := vSort_len h
 refine ⟨by omega, fun x hx => ?_⟩
 have := set_ok ((vSort_ok h).1 x ((vSort_mem h).1 hx))
 exact ⟨by omega, this.1⟩
theorem sers_ok' (l : List Ser) : SersOk (vSort l).1 := by
 by_cases h : (vSort l).2 = 0
 ·exact sers_ok h
 ·rw [vSort_none h]; exact ⟨by decide, fun x hx => by cases hx⟩
end Go.Proofs.YtcmiehddjgfjaaaGreat.A
namespace Go.Proofs.YtcmiehddjgfjaaaGreat.St
open Go.Proofs Go.Proofs.YtcmiehddjgfjaaaGreat.Stable
section
variable {α : Type} {c : α → α → Int}
theorem insAll_app (c : α → α → Int) : ∀ (l m out : List α), insAll c out (l ++ m) = (insAll c out l).bind fun o => insAll c o m
 | [], m, out => rfl
 | x :: l, m, out => by
  rw [List.cons_append, insAll, insAll]
  cases h : ins c out x with
  | none => rfl
  | some o => exact insAll_app c l m o
theorem insAll_step (c : α → α → Int) (l : List α) (i : Nat) (hi : i < l.length) : insAll c [] (l.take (i + 1)) = (insAll c [] (l.take i)).bind fun o => ins c o l[i] := by
 rw [List.take_add_one, List.getElem?_eq_getElem hi, insAll_app]
 congr 1
 funext o
 show insAll c o [l[i]] = _
 rw [insAll]
 cases ins c o l[i] <;> rfl
theorem insAll_none {l : List α} {i : Nat} (h : insAll c [] (l.take i) = none) : insAll c [] l = none := by
 have e := insAll_app c (l.take i) (l.drop i) []
 rw [List.take_append_drop, h] at e
 exact e
theorem ins_len : ∀ {s : List α} {x : α} {o : List α}, ins c s x = some o → o.length = s.length + 1
 | [], x, o, h => by rw [ins] at h; injection h with h; subst h; rfl
 | y :: s, x, o, h => by
  rw [ins] at h
  split at h
  ·cases hr : ins c s x with
   | none => rw [hr] at h; cases h
   | some o' =>
    rw [hr] at h
    injection h with h
    subst h
    rw [List.length_cons, List.length_cons, ins_len hr]
  ·split at h
   ·cases h
   ·injection h with h
    subst h
    rfl
theorem insAll_len : ∀ {l out o : List α}, insAll c out l = some o → o.length = out.length + l.length
 | [], out, o, h => by rw [insAll] at h; injection h with h; subst h; rfl
 | x :: l, out, o, h => by
  rw [insAll] at h
  cases hr : ins c out x with
  | none => rw [hr] at h; cases h
  | some o' =>
   rw [hr] at h
   have := insAll_len (l := l) h
   rw [this, ins_len hr, List.length_cons]
   omega
theorem ins_mem : ∀ {s : List α} {x : α} {o : List α}, ins c s x = some o → ∀ y ∈ o, y = x ∨ y ∈ s
 | [], x, o, h, y, hy => by rw [ins] at h; injection h with h; subst h; exact .inl (List.mem_singleton.1 hy)
 | z :: s, x, o, h, y, hy => by
  rw [ins] at h
  split at h
  ·cases hr : ins c s x with
   | none => rw [hr] at h; cases h
   | some o' =>
    rw [hr] at h
    injection h with h
    subst h
    rcases List.mem_cons.1 hy with rfl | hy
    ·exact .inr List.mem_cons_self
    ·exact (ins_mem hr y hy).imp_right (List.mem_cons_of_mem _)
  ·split at h
   ·cases h
   ·injection h with h
    subst h
    exact List.mem_cons.1 hy
theorem insAll_mem : ∀ {l out o : List α}, insAll c out l = some o → ∀ y ∈ o, y ∈ out ∨ y ∈ l
 | [], out, o, h, y, hy => by rw [insAll] at h; injection h with h; subst h; exact .inl hy
 | x :: l, out, o, h, y, hy => by
  rw [insAll] at h
  cases hr : ins c out x with
  | none => rw [hr] at h; cases h
  | some o' =>
   rw [hr] at h
   rcases insAll_mem (l := l) h y hy with h1 | h1
   ·rcases ins_mem hr y h1 with rfl | h2
    ·exact .inr List.mem_cons_self
    ·exact .inl h2
   ·exact .inr (List.mem_cons_of_mem _ h1)
/-- x's place is behind the first k. -/
def Beh (c : α → α → Int) (s : List α) (x : α) (k : Nat) : Prop := ins c s x = (ins c (s.drop k) x).map (s.take k ++ ·)
theorem Beh.zero (s : List α) (x : α) : Beh c s x 0 := by
 unfold Beh
 rw [List.drop_zero, List.take_zero]
 cases ins c s x <;> rfl
theorem Beh.next {s : List α} {x : α} {k : Nat} (h : Beh c s x k) (hk : k < s.length) (hc : c s[k] x < 0) : Beh c s x (k + 1) := by
 unfold Beh at h ⊢
 rw [h, List.drop_eq_getElem_cons hk, ins, if_pos hc, Option.map_map]
 congr 1
 funext y
 show s.take k ++ s[k] :: y = _
 rw [List.take_add_one, List.getElem?_eq_getElem hk, List.append_assoc]
 rfl
theorem Beh.there {s : List α} {x : α} {k : Nat} (h : Beh c s x k) (hk : k < s.length) (hc : c s[k] x = 0) : ins c s x = none := by
 unfold Beh at h
 rw [h, List.drop_eq_getElem_cons hk, ins, if_neg (by omega), if_pos hc]
 rfl
theorem Beh.put {s : List α} {x : α} {k : Nat} (h : Beh c s x k) (hk : k ≤ s.length) (hc : ∀ hk : k < s.length, 0 < c s[k] x) : ins c s x = some (s.take k ++ x :: s.drop k) := by
 unfold Beh at h
 rw [h]
 by_cases hl : k < s.length
 ·have := hc hl
  rw [List.drop_eq_getElem_cons hl, ins, if_neg (by omega), if_neg (by omega)]
  rfl
 ·have e : s.drop k = [] := List.drop_eq_nil_of_le (by omega)
  rw [e, ins]
  rfl
theorem any_next {p : α → Bool} (l : List α) (i : Nat) (hi : i < l.length) : (l.drop i).any p = (p l[i] || (l.drop (i + 1)).any p) := by
 rw [List.drop_eq_getElem_cons hi, List.any_cons]
end
end Go.Proofs.YtcmiehddjgfjaaaGreat.St
namespace Go.Proofs.YtcmiehddjgfjaaaGreat.A
open Go.RowKit Go.Proofs.YtcmiehddjgfjaaaGreatW.PrintWords Go.Proofs.YtcmiehddjgfjaaaGreatW.PrintLast Go.Proofs.YtcmiehddjgfjaaaGreatW.PrintMore Go.Proofs.YtcmiehddjgfjaaaGreat.St Go.Proofs.YtcmiehddjgfjaaaGreat.Stable
def docIns : Option (List Ser) → List Ser × Int
 | none => ([], 8)
 | some o => if 200 < o.length then ([], 6) else (o, 0)
theorem vSort_doc (l : List Ser) : vSort l = if l.any (fun x => !isSet x.f0) = true then (([] : List Ser), (90 : Int)) else if l.any badVal = true then ([], 80) else docIns (insAll cmpSer [] l) := by
 unfold vSort
 rw [insAll_sort cmpSer3]
 split
 ·rfl
 ·split
  ·rfl
  ·split <;> rfl
theorem fits_doc {x y : Ser} (hx : isSet x.f0 = true) (hy : isSet y.f0 = true) : fits x y = (inR x.f0 y.f0 || inR y.f0 x.f0) := by
 have key : ∀ {a b : List Lab}, isSet a = true → isSet b = true → inC a b = inR a b := fun ha hb => by
  rw [Bool.eq_iff_iff, inC_iff, within_iff ha hb]
 unfold fits
 rw [key hx hy, key hy hx]
theorem joinS_doc {op : ByteArray} {x y : Ser} (hx : isSet x.f0 = true) (hy : isSet y.f0 = true) (hf : fits x y = true) : joinS op x y = ⟨if x.f0.length < y.f0.length then y.f0 else x.f0, ⟨(vDo op [(x.f1.f0, x.f1.f1), (y.f1.f0, y.f1.f1)]).1.1, (vDo op [(x.f1.f0, x.f1.f1), (y.f1.f0, y.f1.f1)]).1.2⟩⟩ := by
 have h := joinS_labels (op := op) hx hy hf
 show (⟨(joinS op x y).f0, _⟩ : Ser) = _
 rw [h]
attribute [local go_sem] Go.Proofs.YtcmiehddjgfjaaaGreat.H.str_gtr Go.Proofs.YtcmiehddjgfjaaaGreat.H.str_leq Go.Proofs.YtcmiehddjgfjaaaGreat.H.str_geq
theorem ris_calls (x : Lab) (hm : LabOk x) (w : World) : Calls Tryz.prog 107 #[.agg #[.string x.f0, .string x.f1]] w fun e w' => e = .returned (.bool (isLab x)) ∧ Below w.heap.size w w' := by
 have hc := rname_calls x.f0 hm
 have he : isLab x = (isName x.f0 && (decide (1 ≤ x.f1.size) && decide (x.f1.size ≤ 128))) := rfl
 rw [he]
 clear he
 generalize isName x.f0 = b at hc ⊢
 obtain ⟨s, t⟩ := x
 simp only at hc ⊢
 have HC := Sd.mk hc
 clear hc hm
 cases b with
 | false =>
  rw [Bool.false_and]
  go_enter Tryz.func107, Tryz.ntmps107
  go_wp2_with (go_at_call 154; refine (HC.out _).mono ?_; rintro e w1 ⟨rfl, rfl⟩)
  go_ret
  exact ⟨rfl, by repeat (first | exact Below.refl _ _ | apply bal | apply pbd | apply bd1)⟩
 | true =>
  rw [Bool.true_and]
  by_cases h1 : 1 ≤ t.size
  ·have b1 : decide ((1 : Int) ≤ (t.size : Int)) = true := decide_eq_true (by omega)
   have b2 : decide (1 ≤ t.size) = true := decide_eq_true (by omega)
   rw [decide_eq_true h1, Bool.true_and]
   by_cases h2 : t.size ≤ 128
   ·have b3 : decide ((t.size : Int) ≤ 128) = true := decide_eq_true (by omega)
    have b4 : decide (t.size ≤ 128) = true := decide_eq_true (by omega)
    rw [decide_eq_true h2]
    go_enter Tryz.func107, Tryz.ntmps107
    go_wp2_with (go_at_call 154; refine (HC.out _).mono ?_; rintro e w1 ⟨rfl, rfl⟩)
    go_ret
    exact ⟨by simp, by repeat (first | exact Below.refl _ _ | apply bal | apply pbd | apply bd1)⟩
   ·have b3 : decide ((t.size : Int) ≤ 128) = false := decide_eq_false (by omega)
    have b4 : decide (t.size ≤ 128) = false := decide_eq_false (by omega)
    rw [decide_eq_false h2]
    go_enter Tryz.func107, Tryz.ntmps107
    go_wp2_with (go_at_call 154; refine (HC.out _).mono ?_; rintro e w1 ⟨rfl, rfl⟩)
    go_ret
    exact ⟨by simp, by repeat (first | exact Below.refl _ _ | apply bal | apply pbd | apply bd1)⟩
  ·have b1 : decide ((1 : Int) ≤ (t.size : Int)) = false := decide_eq_false (by omega)
   have b2 : decide (1 ≤ t.size) = false := decide_eq_false (by omega)
   rw [decide_eq_false h1, Bool.false_and]
   go_enter Tryz.func107, Tryz.ntmps107
   go_wp2_with (go_at_call 154; refine (HC.out _).mono ?_; rintro e w1 ⟨rfl, rfl⟩)
   go_ret
   exact ⟨by simp, by repeat (first | exact Below.refl _ _ | apply bal | apply pbd | apply bd1)⟩
theorem setGo_step (l : List Lab) (i : Nat) (hi : i < l.length) : setGo (prevOf l i) (l.drop i) = (isLab l[i] && ((decide (i = 0) || Op.bytesLess (rd_T62 l ((i - 1 : Nat) : Int)).f0.toList l[i].f0.toList) && setGo (prevOf l (i + 1)) (l.drop (i + 1)))) := by
 have el : l.drop i = l[i] :: l.drop (i + 1) := List.drop_eq_getElem_cons hi
 have hp : prevOf l (i + 1) = some l[i].f0 := by
  unfold prevOf
  rw [if_neg (by omega), Nat.add_sub_cancel, rdL_at hi]
 rw [el, hp]
 by_cases h0 : i = 0
 ·subst h0
  rw [show prevOf l 0 = none from rfl, setGo, decide_eq_true rfl, Bool.true_or, Bool.true_and]
 ·have : prevOf l i = some (rd_T62 l ((i - 1 : Nat) : Int)).f0 := by unfold prevOf; rw [if_neg h0]
  rw [this, setGo, decide_eq_false h0, Bool.false_or]
theorem rset_calls (A : Option Addr) (c : Nat) (l : List Lab) (hl : LabsOk l) (w : World) (hr : Kd.C k62 w A l.length l) : Calls Tryz.prog 66 #[.slice A l.length c] w fun e w' => e = .returned (.bool (isSet l)) ∧ Below w.heap.size w w' := by
 have hm := hl.1
 have HL := Sd.mk hl
 have HR := Sd.mk hr
 have HS := Sd.mk (show isSet l = (setGo (prevOf l 0) (l.drop 0) && decide (l.length ≤ 16)) from rfl)
 clear hl hr
 have mixed : Tryz.prog.follows .mixedOrders = true := by kernel_rfl
 go_enter Tryz.func66, Tryz.ntmps66
 go_wp2
 go_loopw [3] (fun v3 wr => ∃ i : Nat, i ≤ l.length ∧ v3 = .int .i64 i ∧ Sd (isSet l = (setGo (prevOf l i) (l.drop i) && decide (l.length ≤ 16))) ∧ Sd (Below w.heap.size w wr)) (fun v3 _ => l.length - (intOf v3).toNat)
 case atStart => exact ⟨0, Nat.zero_le _, rfl, HS, ⟨Below.refl _ _⟩⟩
 case round =>
  clear HS
  obtain ⟨i, hi, rfl, HA, HB⟩ := hrel
  by_cases hlt : i < l.length
  ·have hlt' : (i : Int) < (l.length : Int) := by omega
   obtain ⟨ad, rfl, p0, p1⟩ := at_T62 (Kd.C_below HR.out HB.out) (i : Int) (by omega) (by omega)
   rw [Int.toNat_natCast] at p0 p1
   have hst := setGo_step l i hlt
   have HX := Sd.mk hst
   clear hst
   rw [rdL_at hlt] at p0 p1
   have hcl := ris_calls l[i] (HL.out.at hlt)
   generalize l[i] = x at p0 p1 hcl HX
   have q0 := fun p : Bw wr => p.cell p0
   have q1 := fun p : Bw wr => p.cell p1
   clear p0 p1
   have hc := fun p : Bw wr => p.at (hcl p.w)
   clear hcl
   generalize isLab x = b at hc HX
   cases b with
   | false =>
    have HZ := Sd.mk (show isSet l = false by rw [HA.out, HX.out, Bool.false_and, Bool.false_and])
    go_wp2_with fail
    refine wp_region_Bw (by assumption) (by kernel_rfl) ?_
    repeat ((with_reducible refine wpQuiet_step (fun K hK => ?_)); go_simp; first | ((with_reducible refine hK _ ?_); clear hK K) | (rw [if_neg (by decide)]; (with_reducible refine hK _ ?_); clear hK K) | ((with_reducible apply Exists.intro); (with_reducible refine ⟨fun _ => ?_, hK _ ?_⟩); ((go_at_call 107; exact hc _)); clear hK K))
    refine wpQuiet_nil ?_
    intro _ hw'
    obtain ⟨p, rfl⟩ := hw'
    go_wp2
    go_ret
    exact ⟨by rw [HZ.out]; rfl, HB.out.trans (p.h.mono HB.out.size)⟩
   | true =>
    by_cases h0 : i = 0
    ·have HN := Sd.mk (show isSet l = (setGo (prevOf l (i + 1)) (l.drop (i + 1)) && decide (l.length ≤ 16)) by rw [HA.out, HX.out, decide_eq_true h0]; rfl)
     have bi : decide ((0 : Int) < (i : Int)) = false := decide_eq_false (by omega)
     have bi2 : decide (0 < i) = false := decide_eq_false (by omega)
     have bi3 : decide ((i : Int) > 0) = false := decide_eq_false (by omega)
     clear HA HX h0
     go_wp2_with fail
     refine wp_region_Bw (by assumption) (by kernel_rfl) ?_
     repeat ((with_reducible refine wpQuiet_step (fun K hK => ?_)); go_simp; first | ((with_reducible refine hK _ ?_); clear hK K) | (rw [if_neg (by decide)]; (with_reducible refine hK _ ?_); clear hK K) | ((with_reducible apply Exists.intro); (with_reducible refine ⟨fun _ => ?_, hK _ ?_⟩); ((go_at_call 107; exact hc _)); clear hK K))
     refine wpQuiet_nil ?_
     intro _ hw'
     obtain ⟨p, rfl⟩ := hw'
     have HB2 := Sd.mk (HB.out.trans (p.h.mono HB.out.size))
     go_wp2
     go_roundw
     case rel => exact ⟨i + 1, by omega, by go_num, HN, HB2⟩
     case measure => simp [intOf]; omega
    ·obtain ⟨j, hj⟩ : ∃ j, i - 1 = j := ⟨_, rfl⟩
     have hjl : j < l.length := by omega
     have bi : decide ((0 : Int) < (i : Int)) = true := decide_eq_true (by omega)
     have bi2 : decide (0 < i) = true := decide_eq_true (by omega)
     have bi3 : decide ((i : Int) > 0) = true := decide_eq_true (by omega)
     have hwp : IntKind.i64.wrap ((i : Int) - 1) = (j : Int) := by rw [IntKind.wrap_i64]; omega
     have bj : (j : Int) < (l.length : Int) := by omega
     obtain ⟨ad2, e2, r0, r1⟩ := at_T62 (Kd.C_below HR.out HB.out) (j : Int) (by omega) (by omega)
     injection e2 with e2
     subst e2
     rw [Int.toNat_natCast] at r0 r1
     rw [rdL_at hjl] at r0 r1
     have HX2 := Sd.mk (show setGo (prevOf l i) (l.drop i) = (Op.bytesLess l[j].f0.toList x.f0.toList && setGo (prevOf l (i + 1)) (l.drop (i + 1))) by rw [HX.out, hj, rdL_at hjl, decide_eq_false h0, Bool.false_or, Bool.true_and])
     have HJ := Sd.mk hj
     clear HX hj h0
     generalize l[j] = y at r0 r1 HX2
     have t0 := fun p : Bw wr => p.cell r0
     clear r0 r1
     generalize hq : Op.bytesLess y.f0.toList x.f0.toList = b at HX2
     have HQ := Sd.mk hq
     cases b with
     | false =>
      have HZ := Sd.mk (show isSet l = false by rw [HA.out, HX2.out, Bool.false_and, Bool.false_and])
      go_wp2_with fail
      refine wp_region_Bw (by assumption) (by kernel_rfl) ?_
      repeat ((with_reducible refine wpQuiet_step (fun K hK => ?_)); go_simp; first | ((with_reducible refine hK _ ?_); clear hK K) | (rw [if_neg (by decide)]; (with_reducible refine hK _ ?_); clear hK K) | ((with_reducible apply Exists.intro); (with_reducible refine ⟨fun _ => ?_, hK _ ?_⟩); ((go_at_call 107; exact hc _)); clear hK K))
      refine wpQuiet_nil ?_
      intro _ hw'
      obtain ⟨p, rfl⟩ := hw'
      have HB2 := Sd.mk (HB.out.trans (p.h.mono HB.out.size))
      go_wp2
      go_ret
      exact ⟨by rw [HZ.out]; rfl, HB2.out⟩
     | true =>
      have HN := Sd.mk (show isSet l = (setGo (prevOf l (i + 1)) (l.drop (i + 1)) && decide (l.length ≤ 16)) by rw [HA.out, HX2.out, Bool.true_and])
      go_wp2_with fail
      refine wp_region_Bw (by assumption) (by kernel_rfl) ?_
      repeat ((with_reducible refine wpQuiet_step (fun K hK => ?_)); go_simp; first | ((with_reducible refine hK _ ?_); clear hK K) | (rw [if_neg (by decide)]; (with_reducible refine hK _ ?_); clear hK K) | ((with_reducible apply Exists.intro); (with_reducible refine ⟨fun _ => ?_, hK _ ?_⟩); ((go_at_call 107; exact hc _)); clear hK K))
      refine wpQuiet_nil ?_
      intro _ hw'
      obtain ⟨p, rfl⟩ := hw'
      have HB2 := Sd.mk (HB.out.trans (p.h.mono HB.out.size))
      go_wp2
      go_roundw
      case rel => exact ⟨i + 1, by omega, by go_num, HN, HB2⟩
      case measure => simp [intOf]; omega
  ·have hil : i = l.length := by omega
   have HZ := Sd.mk (show isSet l = decide (l.length ≤ 16) by rw [HA.out, List.drop_of_length_le (by omega)]; cases prevOf l i <;> rfl)
   by_cases h16 : l.length ≤ 16
   ·have b1 : decide ((l.length : Int) ≤ 16) = true := decide_eq_true (by omega)
    have b2 : decide (l.length ≤ 16) = true := decide_eq_true (by omega)
    go_wp2
    go_ret
    exact ⟨by rw [HZ.out]; simp [h16], HB.out⟩
   ·have b1 : decide ((l.length : Int) ≤ 16) = false := decide_eq_false (by omega)
    have b2 : decide (l.length ≤ 16) = false := decide_eq_false (by omega)
    go_wp2
    go_ret
    exact ⟨by rw [HZ.out]; simp [h16], HB.out⟩
abbrev Pt := S39
def oddP (x : Pt) : Bool := decide (x.f1.f0 = 2 ∨ x.f1.f0 = 3)
theorem odd_is (k n : Int) : s_odd.f k n = some (decide (k = 2 ∨ k = 3)) := by
 unfold s_odd.f
 by_cases h : k = 2
 ·rw [if_pos h, decide_eq_true (.inl h)]
 ·rw [if_neg h]
  congr 1
  by_cases h3 : k = 3
  ·rw [decide_eq_true (.inr h3)]; simpa using h3
  ·rw [decide_eq_false (fun e => e.elim h h3)]; simpa using h3
theorem odd2_calls (x : Pt) (w : World) : Calls Tryz.prog 36 #[.agg #[.int .i64 x.f0, .int .i64 x.f1.f0, .int .i64 x.f1.f1]] w fun e w' => e = .returned (.bool (oddP x)) ∧ Below w.heap.size w w' := by
 have hb := below1 w (.cells #[.int .i64 x.f0, .int .i64 x.f1.f0, .int .i64 x.f1.f1] 39)
 have HC := Sd.mk (s_odd.calls x.f1.f0 x.f1.f1 _ (w.alloc (.cells #[.int .i64 x.f0, .int .i64 x.f1.f0, .int .i64 x.f1.f1] 39)) (odd_is _ _))
 have HB := Sd.mk hb
 unfold oddP
 generalize decide (x.f1.f0 = 2 ∨ x.f1.f0 = 3) = r at HC ⊢
 clear hb
 go_enter Tryz.func36, Tryz.ntmps36
 go_wp2_with (go_at_call 37; refine HC.out.mono ?_; rintro e w1 ⟨rfl, hb1⟩; have HE := Sd.mk (HB.out.trans (hb1.mono HB.out.size)); clear hb1)
 go_ret
 exact ⟨by first | rfl | simp, HE.out⟩
theorem odd3_calls (x : Pt) (w : World) : Calls Tryz.prog 41 #[.agg #[.int .i64 x.f0, .int .i64 x.f1.f0, .int .i64 x.f1.f1]] w fun e w' => e = .returned (.bool (oddP x)) ∧ Below w.heap.size w w' := by
 have hb := below1 w (.cells #[.int .i64 x.f0, .int .i64 x.f1.f0, .int .i64 x.f1.f1] 39)
 have HC := Sd.mk (s_odd.calls x.f1.f0 x.f1.f1 _ (w.alloc (.cells #[.int .i64 x.f0, .int .i64 x.f1.f0, .int .i64 x.f1.f1] 39)) (odd_is _ _))
 have HB := Sd.mk hb
 unfold oddP
 generalize decide (x.f1.f0 = 2 ∨ x.f1.f0 = 3) = r at HC ⊢
 clear hb
 go_enter Tryz.func41, Tryz.ntmps41
 go_wp2_with (go_at_call 37; refine HC.out.mono ?_; rintro e w1 ⟨rfl, hb1⟩; have HE := Sd.mk (HB.out.trans (hb1.mono HB.out.size)); clear hb1)
 go_ret
 exact ⟨by first | rfl | simp, HE.out⟩
theorem addP_own (g k : Nat) : (⟨g, 0, none⟩ : Addr).add k = ⟨g, k, none⟩ := by
 unfold Addr.add
 split
 ·rename_i h; subst h; rfl
 ·simp
theorem ownP_at {w : World} {base : Nat} {ok : Nat → Prop} {g n c : Nat} {xs : List Pt} (h : Kd.R k39 39 w base ok (.slice (some ⟨g, 0, none⟩) n c) xs) (j : Nat) (hj : j < xs.length) :
  w.cell? ⟨g, j * 3, none⟩ = some (.int .i64 (rd_T39 xs j).f0) ∧ w.cell? ⟨g, j * 3 + 1, none⟩ = some (.int .i64 (rd_T39 xs j).f1.f0) ∧ w.cell? ⟨g, j * 3 + 2, none⟩ = some (.int .i64 (rd_T39 xs j).f1.f1) := by
 obtain ⟨ad0, e0, p⟩ := at_T39 (Kd.R_reads' h).2.2 (j : Int) (by omega) (by omega)
 injection e0 with e0
 subst e0
 rw [Int.toNat_natCast, addP_own] at p
 exact p
theorem kP_flat {w w' : World} {b b' : Nat} {ok ok' : Nat → Prop} {x : Pt} {cs : List Value} (h : k39.M w b ok x cs) : k39.M w' b' ok' x cs := by
 obtain rfl := k39_openM h
 exact k39_mkM _ _ _ _
def zPt : Array Value := #[.int .i64 0, .int .i64 0, .int .i64 0]
theorem zPt_one (m : Nat) (h : m < 3) : (zPt[m]!).oneCell' = true := by
 match m, h with
 | 0, _ => rfl
 | 1, _ => rfl
 | 2, _ => rfl
/-- What a cleared tail leaves: the elements ahead of it. -/
theorem clearP_own {w0 W : World} {g n c : Nat} {xs : List Pt} (h : Kd.R k39 39 W w0.heap.size (fun _ => True) (.slice (some ⟨g, 0, none⟩) n c) xs) (hB : Below w0.heap.size w0 W) (i : Nat) (hi : i < n) :
  ∃ W1, (∀ ty, (Builtin.clear_ #[22] ty #[.slice (some ⟨g, i * 3, none⟩) (n - i) (c - i)]).run Tryz.prog W = .ok (.tuple #[]) W1) ∧ Kd.R k39 39 W1 w0.heap.size (fun _ => True) (.slice (some ⟨g, 0, none⟩) i c) (xs.take i) ∧ Below w0.heap.size w0 W1 := by
 have hn : n = xs.length := (Kd.R_reads' h).1
 have hnc : n ≤ c := (Kd.R_reads' h).2.1
 have h' := Kd.R_take h (m := i) (by omega)
 obtain ⟨h0, inner, hown, hr⟩ := h'
 rcases hown.2 with ⟨hv, _⟩ | ⟨g', cap', cur, hv, hb, hh, hic, hcm, hcs, htk⟩
 ·cases hv
 injection hv with ha h2 h3
 injection ha with ha
 injection ha with hg'
 subst hg'; subst h3
 have hk3 : k39.sz = 3 := rfl
 rw [hk3] at hcs htk
 obtain ⟨zs, hzs⟩ : ∃ zs, zs = (Builtin.zeroCells zPt (n - i)).toList := ⟨_, rfl⟩
 have zl : zs.length = (n - i) * 3 := by rw [hzs]; simp [Builtin.zeroCells, zPt]
 have z1 : ∀ u ∈ zs, u.oneCell' = true := by
  intro u hu
  rw [hzs] at hu
  simp only [Builtin.zeroCells, Array.toList_map, List.mem_map] at hu
  obtain ⟨j, _, rfl⟩ := hu
  exact zPt_one _ (Nat.mod_lt _ (by decide))
 have hfit : i * 3 + zs.length ≤ cur.size := by rw [zl, hcs]; omega
 have hst := run_storeCells_cells (P := Tryz.prog) g (i * 3) zs 0 W (fun j hj => by
  rw [cell_of_row W g _ cur 39 (0, 0) hh]; simp; omega) (fun j _ => blk_frozen hh _) z1
 simp only [Nat.add_zero] at hst
 obtain ⟨cur', hh', hcs', hl'⟩ := setCells_row (e := 39) zs (i * 3) W cur hh hfit
 refine ⟨W.setCells g (i * 3) zs, fun ty => ?_, ⟨h0, inner, ⟨hown.1, .inr ⟨g, c, cur', by rw [← h2], hb, hh', hic, hcm, by rw [hcs', hcs, hk3], ?_⟩⟩, hr.imp_ (fun _ _ hp => kP_flat hp)⟩, ?_⟩
 ·obtain ⟨m, hm⟩ : ∃ m, n - i = m + 1 := ⟨n - i - 1, by omega⟩
  rw [hm] at hzs
  rw [hm]
  have hzc : (Value.agg zPt).cells = zPt := by simp [Value.cells, zPt]
  have hz : (zeroValue 39).run Tryz.prog W = .ok (.agg zPt) W := Tryz.zeroValue39 W
  rw [hzs] at hst ⊢
  simp [Builtin.clear_, run_underlying Tryz.underlying22, hz, hzc, hst]
 ·rw [hk3, ← h2, hl', List.append_assoc, List.take_append_of_le_length (by rw [List.length_take, Array.length_toList, hcs]; omega), List.take_take, Nat.min_self, ← htk, ← h2]
 ·obtain ⟨s1, s2, s3, s4⟩ := setCells_same g zs (i * 3) W
  exact hB.trans ⟨s1, s2, s3, by rw [s4]; exact Nat.le_refl _, fun k hk => setCells_far zs _ k (by omega)⟩
theorem info39s : (Tryz.prog.info? 39).map (·.size) = some 3 := by kernel_rfl
abbrev ptL (x : Pt) : List Value := [.int .i64 x.f0, .int .i64 x.f1.f0, .int .i64 x.f1.f1]
/-- xs[i] = x, in a row of the call's own. -/
theorem store_pt {ops : Array Oper} {rest : List Oper} {o : Oper} {a : Act} {Q : Exit → Act → World → Prop} {W : World} {B : Nat} {w0 : World} (x' y' : Operand) (hN : o.dst = none) (hgd : o.guard = none) (ho : o.op = .store 39 x' y') {g n c o' : Nat} (i : Nat) (xs : List Pt) (x : Pt)
  (haddr : a.eval x' = .pointer (some ⟨g, o', none⟩)) (hoff : o' = i * 3) (hx : a.eval y' = .agg #[.int .i64 x.f0, .int .i64 x.f1.f0, .int .i64 x.f1.f1])
  (HO : Kd.R k39 39 W B (fun _ => True) (.slice (some ⟨g, 0, none⟩) n c) xs) (hi : i < xs.length) (HB : Below B w0 W)
  (h : ∀ w1, Kd.R k39 39 w1 B (fun _ => True) (.slice (some ⟨g, 0, none⟩) n c) (xs.set i x) → Below B w0 w1 → W.grownBy w1 (some g) → wpList Tryz.prog ops Q rest a w1) : wpList Tryz.prog ops Q (o :: rest) a W := by
 obtain ⟨o0, o1, o2⟩ := ownP_at HO i hi
 have hn := (Kd.R_reads' HO).1
 refine Kd.R_store k39 (w0 := w0) B hN hgd 39 x' y' ho 39 (i : Int) 0 xs x (.agg #[.int .i64 x.f0, .int .i64 x.f1.f0, .int .i64 x.f1.f1]) (ptL x) (ptL (rd_T39 xs i)) (fun _ => True) (fun _ => False) haddr (by rw [hoff]; rfl) hx (by simp [Value.cells]) info39s ?_ HO (by omega) (by omega) rfl ?_ (Nat.le_refl 3) (k39_mkM _ _ _ _) (fun _ hk => hk.elim) HB (by rw [Int.toNat_natCast]; exact h)
 ·intro q hq
  simp only [List.mem_cons, List.not_mem_nil, or_false] at hq
  rcases hq with rfl | rfl | rfl <;> rfl
 ·intro m u hu
  rw [Int.toNat_natCast]
  match m, hu with
  | 0, hu => injection hu with hu; subst hu; exact o0
  | 1, hu => injection hu with hu; subst hu; exact o1
  | 2, hu => injection hu with hu; subst hu; exact o2
  | m + 3, hu => simp at hu
theorem keep_step {p : Pt → Bool} {l xs : List Pt} {i j : Nat} (hl : xs.length = l.length) (ht : xs.take i = (l.take j).filter p) (hd : xs.drop j = l.drop j) (hij : i < j) (hj : j < l.length) (hp : p l[j] = true) :
  (xs.set i l[j]).length = l.length ∧ (xs.set i l[j]).take (i + 1) = (l.take (j + 1)).filter p ∧ (xs.set i l[j]).drop (j + 1) = l.drop (j + 1) := by
 refine ⟨by rw [List.length_set, hl], ?_, ?_⟩
 ·rw [List.take_add_one, List.take_set_of_le (Nat.le_refl _), ht, List.getElem?_set_self (by omega), List.take_add_one (i := j), List.getElem?_eq_getElem hj, List.filter_append]
  simp [hp]
 ·rw [List.drop_set_of_lt (by omega), ← List.drop_drop, hd, List.drop_drop]
theorem drop_step {p : Pt → Bool} {l xs : List Pt} {i j : Nat} (ht : xs.take i = (l.take j).filter p) (hd : xs.drop j = l.drop j) (hj : j < l.length) (hp : ¬ p l[j] = true) :
  xs.take i = (l.take (j + 1)).filter p ∧ xs.drop (j + 1) = l.drop (j + 1) := by
 refine ⟨?_, ?_⟩
 ·rw [ht, List.take_add_one (i := j), List.getElem?_eq_getElem hj, List.filter_append]
  simp [hp]
 ·rw [← List.drop_drop, hd, List.drop_drop]
theorem idxP_at (q : Pt → Bool) : ∀ (l : List Pt) (i : Nat), (Go.Proofs.YtcmiehddjgfjaaaGreat.I.idxP q l i = -1 ∧ l.filter (fun x => !q x) = l) ∨ ∃ k : Nat, Go.Proofs.YtcmiehddjgfjaaaGreat.I.idxP q l i = ((i + k : Nat) : Int) ∧ k < l.length ∧ (l.take (k + 1)).filter (fun x => !q x) = l.take k
 | [], i => .inl ⟨rfl, rfl⟩
 | x :: l, i => by
  rw [Go.Proofs.YtcmiehddjgfjaaaGreat.I.idxP]
  by_cases h : q x = true
  ·rw [if_pos h]
   refine .inr ⟨0, rfl, by simp, ?_⟩
   rw [List.take_succ_cons, List.filter_cons_of_neg (by rw [h]; simp)]
   simp
  ·rw [if_neg h]
   have hn : (!q x) = true := by simpa using h
   rcases idxP_at q l (i + 1) with ⟨h1, h2⟩ | ⟨k, h1, h2, h3⟩
   ·exact .inl ⟨h1, by rw [List.filter_cons_of_pos (p := fun x => !q x) hn, h2]⟩
   ·refine .inr ⟨k + 1, by rw [h1]; congr 1; omega, by simp; omega, ?_⟩
    rw [List.take_succ_cons, List.filter_cons_of_pos (p := fun x => !q x) hn, h3, List.take_succ_cons]
theorem deleteP_calls (l : List Pt) (v : Value) (w0 w : World) (hv : Kd.R k39 39 w w0.heap.size (fun _ => True) v l) (hb : Below w0.heap.size w0 w) :
  Calls Tryz.prog 34 #[v, .func (.func 36) #[] #[]] w fun e w' => ∃ v0_ : Value, e = .returned v0_ ∧ Kd.R k39 39 w' w0.heap.size (fun _ => True) v0_ (l.filter fun x => !oddP x) ∧ Below w0.heap.size w0 w' := by
 have eg : ∀ args w, (callFunc 36 args).run Tryz.prog w = .ok (.enter 36 args) w := enters_of Tryz.func36 (by kernel_rfl) rfl
 have HEG := Sd.mk eg
 clear eg
 have hu39 := Tryz.underlying39
 have HV := Sd.mk hv
 have HB := Sd.mk hb
 obtain ⟨A, c, rfl, hlc, hC⟩ := Kd.R_reads hv
 have HR := Sd.mk hC
 have hm : l.length ≤ 9223372036854775807 := Kd.C_max hC
 clear hv hb hC
 go_enter Tryz.func34, Tryz.ntmps34
 go_wp2_with fail
 refine (indexPoint oddP 36 #[] HEG.out A c l _ HR.out (fun x hx w1 cs _ hK => by obtain rfl := k39_open hK; exact odd2_calls x w1)).mono ?_
 rintro e w1 ⟨rfl, hb1⟩
 have HV1 := Sd.mk (Kd.R_below HV.out hb1)
 have HB1 := Sd.mk (below_step HB.out hb1)
 clear hb1 HV HB HR
 rcases idxP_at oddP l 0 with ⟨hi, hf⟩ | ⟨k, hi, hk, hf⟩
 ·rw [hi]
  go_wp2
  go_ret
  exact ⟨_, rfl, by rw [hf]; exact HV1.out, HB1.out⟩
 ·rw [hi, Nat.zero_add]
  have HF := Sd.mk hf
  have dn : ((k : Int) == -1) = false := by simp
  clear hi hf
  obtain ⟨ad1, c1, he⟩ := Kd.R_slice1 HV1.out (by omega)
  injection he with he1 he2 he3
  subst he1; subst he3
  obtain ⟨g, rfl⟩ := Kd.R_head HV1.out
  go_wp2_with fail
  go_loopg [5, 6, 7] (l.length - (k + 1)) (fun kq v5 v6 v7 w' => ∃ (i j : Nat) (xs : List Pt), i < j ∧ j ≤ l.length ∧ v5 = .int .i64 i ∧ v6 = .int .i64 j ∧ Sd (kq = l.length - j) ∧ Sd (xs.length = l.length ∧ xs.take i = (l.take j).filter (fun x => !oddP x) ∧ xs.drop j = l.drop j) ∧ Sd (Kd.R k39 39 w' w0.heap.size (fun _ => True) (.slice (some ⟨g, 0, none⟩) l.length c) xs) ∧ Sd (Below w0.heap.size w0 w'))
  case atStart => exact ⟨k, k + 1, l, by omega, by omega, rfl, by go_num, ⟨rfl⟩, ⟨rfl, HF.out.symm, rfl⟩, HV1, HB1⟩
  case round =>
   obtain ⟨i, j, xs, hij, hj, rfl, rfl, HK, HX, HO, HB⟩ := hrel
   by_cases hlt : j < l.length
   ·have hjx : j < xs.length := by rw [HX.out.1]; exact hlt
    obtain ⟨p0, p1, p2⟩ := ownP_at HO.out j hjx
    go_wp2_with fail
    have hj1 : rd_T39 xs j = l[j] := by
     have e : xs[j] = l[j] := by
      have h1 := List.drop_eq_getElem_cons hjx
      have h2 := List.drop_eq_getElem_cons hlt
      rw [HX.out.2.2, h2] at h1
      injection h1 with h1
      exact h1.symm
     rw [← e]; simp [rd_T39, List.getD_eq_getElem?_getD, List.getElem?_eq_getElem hjx]
    have hnew : ∀ (o : Array Value) (m : Nat), (wr.alloc (.cells o 39)).cell? ⟨wr.heap.size, m, none⟩ = o[m]? := fun o m => cell_of_row _ _ _ o 39 (0, 0) (blk_new wr _)
    refine (odd2_calls (rd_T39 xs j) _).mono ?_
    rintro e w2 ⟨rfl, hb2⟩
    have q0 := pw_cell_below hb2 (hnew _ 0)
    have q1 := pw_cell_below hb2 (hnew _ 1)
    have q2 := pw_cell_below hb2 (hnew _ 2)
    have HO2 := Sd.mk (Kd.R_below (Kd.R_alloc HO.out _) hb2)
    have HB2 := Sd.mk (below_step (bal HB.out _) hb2)
    obtain ⟨B, hBe⟩ : ∃ B, B = wr.heap.size := ⟨_, rfl⟩
    rw [← hBe] at q0 q1 q2 ⊢
    clear hnew hb2 p0 p1 p2 HO HB hBe
    have HJ := Sd.mk hj1
    clear hj1
    have HD := Sd.mk (rfl : oddP (rd_T39 xs j) = oddP (rd_T39 xs j))
    generalize hd : oddP (rd_T39 xs j) = b at ⊢
    cases b with
    | false =>
     have hil : i < xs.length := by rw [HX.out.1]; omega
     go_wp2_with (first | ((with_reducible refine gate_ (.store 39 (.tmp 33) (.tmp 32)) rfl ?_); refine store_pt (w0 := w0) (.tmp 33) (.tmp 32) rfl rfl rfl i xs (rd_T39 xs j) rfl rfl rfl HO2.out hil HB2.out ?_; intro w3 ho hb hg_; have n0_ := Sd.mk hb; have n1_ := Sd.mk ho; clear HB2 HO2; have HB := n0_; have HO := n1_; clear n0_ n1_ hb ho hg_))
     have hp : (!oddP l[j]) = true := by rw [← HJ.out, hd]; rfl
     have HX2 := Sd.mk (show (xs.set i (rd_T39 xs j)).length = l.length ∧ (xs.set i (rd_T39 xs j)).take (i + 1) = (l.take (j + 1)).filter (fun x => !oddP x) ∧ (xs.set i (rd_T39 xs j)).drop (j + 1) = l.drop (j + 1) from by
      rw [HJ.out]; exact keep_step HX.out.1 HX.out.2.1 HX.out.2.2 hij hlt hp)
     go_roundg (l.length - (j + 1))
     case measure => have := HK.out; omega
     case rel => exact ⟨i + 1, j + 1, xs.set i (rd_T39 xs j), by omega, by omega, by go_num, by go_num, ⟨rfl⟩, HX2, HO, HB⟩
    | true =>
     have hp : ¬ (!oddP l[j]) = true := by rw [← HJ.out, hd]; simp
     have HX2 := Sd.mk (show xs.length = l.length ∧ xs.take i = (l.take (j + 1)).filter (fun x => !oddP x) ∧ xs.drop (j + 1) = l.drop (j + 1) from ⟨HX.out.1, drop_step HX.out.2.1 HX.out.2.2 hlt hp⟩)
     clear hp
     go_wp2
     go_roundg (l.length - (j + 1))
     case measure => have := HK.out; omega
     case rel => exact ⟨i, j + 1, xs, by omega, by omega, by go_num, by go_num, ⟨rfl⟩, HX2, HO2, HB2⟩
   ·have hjl : j = l.length := by omega
    subst hjl
    obtain ⟨W1, hW1, HO1, HB1⟩ := clearP_own HO.out HB.out i hij
    have HF1 := Sd.mk (show xs.take i = l.filter (fun x => !oddP x) from by rw [HX.out.2.1, List.take_length])
    have HO2 := Sd.mk HO1
    have HB2 := Sd.mk HB1
    clear HO1 HB1 HX HO HB
    go_wp2
    go_ret
    exact ⟨_, rfl, by rw [← HF1.out]; exact HO2.out, HB2.out⟩
theorem rdP_at {xs : List Pt} {i : Nat} (h : i < xs.length) : rd_T39 xs (i : Int) = xs[i] := by
 unfold rd_T39
 rw [Int.toNat_natCast, List.getD_eq_getElem?_getD, List.getElem?_eq_getElem h]; rfl
def valP (x : Pt) : V := (x.f1.f0, x.f1.f1)
/-- An operation of two values. -/
def do2 (op : ByteArray) (a b : V) : V := (vDo op [a, b]).1
def totalGo (v : V) (l : List Pt) : V := l.foldl (fun v p => do2 ⟨#[43]⟩ v (valP p)) v
theorem totalGo_take (v : V) (l : List Pt) (i : Nat) (hi : i < l.length) : totalGo v (l.take (i + 1)) = do2 ⟨#[43]⟩ (totalGo v (l.take i)) (valP l[i]) := by
 unfold totalGo
 rw [List.take_add_one, List.getElem?_eq_getElem hi, List.foldl_append]
 rfl
theorem blk_old2 {w : World} {g : Nat} {o : Obj} (h : w.heap[g]? = some o) (o' : Obj) : (w.alloc o').heap[g]? = some o := (Below.heap_alloc w o' g (Array.getElem?_eq_some_iff.1 h).1).trans h
/-- A value's block, written over. -/
theorem set_val {W : World} {g : Nat} {a b x y : Value} {t : TypeId} (h : W.heap[g]? = some (.cells #[a, b] t (0, 0))) : ((W.setCell ⟨g, 0, none⟩ x).setCell ⟨g, 1, none⟩ y).heap[g]? = some (.cells #[x, y] t (0, 0)) := by
 have h1 : ∀ {W : World} {o : Nat} {cs : Array Value} {x : Value}, W.heap[g]? = some (.cells cs t (0, 0)) → (W.setCell ⟨g, o, none⟩ x).heap[g]? = some (.cells (cs.setIfInBounds o x) t (0, 0)) := fun {W o cs x} h => by
  rw [setCell_eq_setRow W g o cs t (0, 0) x h]
  exact setRow_heap W g cs _ t (0, 0) h
 exact h1 (h1 h)
theorem keep_val {W : World} {g h : Nat} {x y : Value} {o : Obj} (hh : W.heap[h]? = some o) (hne : h ≠ g) : ((W.setCell ⟨g, 0, none⟩ x).setCell ⟨g, 1, none⟩ y).heap[h]? = some o := by
 rw [Below.heap_setCell _ _ _ _ hne, Below.heap_setCell _ _ _ _ hne]; exact hh
theorem total_calls (A : Option Addr) (c : Nat) (x : Pt) (l' : List Pt) (w : World) (hr : Kd.C k39 w A (x :: l').length (x :: l')) (hc : (x :: l').length ≤ c) :
  Calls Tryz.prog 44 #[.slice A (x :: l').length c] w fun e w' => e = .returned (.agg #[.int .i64 (totalGo (valP x) l').1, .int .i64 (totalGo (valP x) l').2]) ∧ Below w.heap.size w w' := by
 have hmx : (x :: l').length ≤ 9223372036854775807 := Kd.C_max hr
 obtain ⟨ad, rfl, p0, p1, p2⟩ := at_T39 hr 0 (by omega) (by simp)
 have e0 : rd_T39 (x :: l') 0 = x := rfl
 rw [e0] at p0 p1 p2
 have hd := Kd.C_drop hr (m := 1) (by simp) hc
 have hlen : (x :: l').length = l'.length + 1 := rfl
 rw [hlen] at hmx hc ⊢
 have hb0 := below1 w (.cells #[.int .i64 0, .int .i64 0] 25)
 have p1 := pw_cell_below hb0 p1
 have p2 := pw_cell_below hb0 p2
 have hz : ad.add (Int.toNat 0 * 3) = ad := by unfold Addr.add; simp
 rw [hz] at p1 p2
 have X4 := Sd.mk (blk_old2 (blk_new w (.cells #[.int .i64 0, .int .i64 0] 25)) (.cells #[.int .i64 x.f1.f0, .int .i64 x.f1.f1] 25))
 have X5 := Sd.mk (blk_new (w.alloc (.cells #[.int .i64 0, .int .i64 0] 25)) (.cells #[.int .i64 x.f1.f0, .int .i64 x.f1.f1] 25))
 have HB0 := Sd.mk (bal hb0 (.cells #[.int .i64 x.f1.f0, .int .i64 x.f1.f1] 25))
 rw [World.size_alloc] at X5
 have s1 : (((l'.length + 1 : Nat) : Int) - 1) = (l'.length : Int) := by omega
 clear hr p0 e0 hb0 hz hlen
 by_cases hc1 : c = 1
 ·rw [if_pos hc1] at hd
  have HR := Sd.mk (show Kd.C k39 w (some ad) l'.length l' from hd)
  subst hc1
  have hl0 : l'.length = 0 := by omega
  have hnil : l' = [] := List.eq_nil_of_length_eq_zero hl0
  subst hnil
  clear hd hl0
  go_enter Tryz.func44, Tryz.ntmps44
  go_wp2
  go_loopw [13] (fun v13 wr => v13 = .int .i64 0 ∧ Sd (wr.heap[w.heap.size]? = some (.cells #[.int .i64 0, .int .i64 0] 25 (0, 0))) ∧ Sd (wr.heap[w.heap.size + 1]? = some (.cells #[.int .i64 x.f1.f0, .int .i64 x.f1.f1] 25 (0, 0))) ∧ Sd (Below w.heap.size w wr)) (fun v13 _ => 0)
  case atStart => exact ⟨rfl, X4, X5, HB0⟩
  case round =>
   clear X4 X5 HB0
   obtain ⟨rfl, H4, H5, HW⟩ := hrel
   have c0 := (blk_cell H5.out 0).trans rfl
   have c1 := (blk_cell H5.out 1).trans rfl
   have d0 := (blk_cell H4.out 0).trans rfl
   have d1 := (blk_cell H4.out 1).trans rfl
   have f0 := blk_frozen H4.out 0
   have f1 := blk_frozen H4.out 1
   go_wp2
   exact bodyPost_ret (v := .agg #[.int .i64 x.f1.f0, .int .i64 x.f1.f1]) (by simp [results, Tryz.results44, go_sem, d0, d1]) rfl ⟨rfl, (HW.out.setCell (by simp) _).setCell (by simp) _⟩
 ·rw [if_neg hc1] at hd
  have ha3 : ad.add 3 = ⟨ad.block, ad.off + 3, none⟩ := by unfold Addr.add; simp
  have HR := Sd.mk (show Kd.C k39 w (some ⟨ad.block, ad.off + 3, none⟩) l'.length l' by rw [← ha3]; exact hd)
  clear ha3
  have hgt : 1 < c := by omega
  have hcn : (c == 1) = false := by simpa using hc1
  clear hd hc1
  go_enter Tryz.func44, Tryz.ntmps44
  go_wp2
  go_loopw [13] (fun v13 wr => ∃ i : Nat, i ≤ l'.length ∧ v13 = .int .i64 i ∧ Sd (wr.heap[w.heap.size]? = some (.cells #[.int .i64 0, .int .i64 0] 25 (0, 0))) ∧ Sd (wr.heap[w.heap.size + 1]? = some (.cells #[.int .i64 (totalGo (valP x) (l'.take i)).1, .int .i64 (totalGo (valP x) (l'.take i)).2] 25 (0, 0))) ∧ Sd (Below w.heap.size w wr)) (fun v13 _ => l'.length - (intOf v13).toNat)
  case atStart => exact ⟨0, Nat.zero_le _, rfl, X4, X5, HB0⟩
  case round =>
   clear X4 X5 HB0
   obtain ⟨i, hi, rfl, H4, H5, HW⟩ := hrel
   by_cases hlt : i < l'.length
   ·have b1 : (i : Int) < (l'.length : Int) := by omega
    obtain ⟨ad2, e2, q0, q1, q2⟩ := at_T39 (Kd.C_below HR.out HW.out) (i : Int) (by omega) (by omega)
    injection e2 with e2
    subst e2
    rw [rdP_at hlt] at q0 q1 q2
    rw [Int.toNat_natCast, add_at] at q0 q1 q2
    have hst := totalGo_take (valP x) l' i hlt
    generalize hbv : totalGo (valP x) (l'.take i) = bv at H5 hst
    obtain ⟨v1, v2⟩ := bv
    generalize l'[i] = y at q0 q1 q2 hst
    rcases hdo : vDo ⟨#[43]⟩ [(v1, v2), (y.f1.f0, y.f1.f1)] with ⟨⟨r1, r2⟩, r3⟩
    have HST := Sd.mk (hst.trans (show do2 ⟨#[43]⟩ (v1, v2) (valP y) = (r1, r2) by unfold do2 valP; rw [hdo]))
    have hba := below1 wr (.cells #[.int .i64 y.f0, .int .i64 y.f1.f0, .int .i64 y.f1.f1] 39)
    have c0 := (blk_cell (blk_below H5.out hba) 0).trans rfl
    have c1 := (blk_cell (blk_below H5.out hba) 1).trans rfl
    have HD := Sd.mk (do2_any ⟨#[43]⟩ v1 v2 y.f1.f0 y.f1.f1 (wr.alloc (.cells #[.int .i64 y.f0, .int .i64 y.f1.f0, .int .i64 y.f1.f1] 39)) hdo)
    simp only [World.size_alloc] at HD
    have HA := Sd.mk hba
    clear hst hbv hba hdo
    go_wp2_with fail
    refine HD.out.mono ?_
    rintro e w2 ⟨rfl, hb2⟩
    have HB2 := Sd.mk (HA.out.trans (hb2.mono (Nat.le_succ _)))
    have K5 := Sd.mk (blk_below H5.out HB2.out)
    have K4 := Sd.mk (blk_below H4.out HB2.out)
    have z0 := (blk_cell K5.out 0).trans rfl
    have z1 := (blk_cell K5.out 1).trans rfl
    have f0 := blk_frozen K5.out 0
    have f1 := blk_frozen K5.out 1
    have HW2 := Sd.mk (HW.out.trans (HB2.out.mono HW.out.size))
    clear hb2 c0 c1
    go_wp2
    go_roundw
    case rel => exact ⟨i + 1, by omega, by go_num, ⟨keep_val K4.out (by omega)⟩, ⟨by rw [HST.out]; exact set_val K5.out⟩, ⟨(HW2.out.setCell (by simp) _).setCell (by simp) _⟩⟩
    case measure => simp [intOf]; omega
   ·have n1 : decide ((i : Int) < (l'.length : Int)) = false := decide_eq_false (by omega)
    have n2 : decide (i < l'.length) = false := decide_eq_false hlt
    have HE := Sd.mk (show l'.take i = l' from List.take_of_length_le (by omega))
    rw [HE.out] at H5
    generalize hbv : totalGo (valP x) l' = bv at H5
    have HBV := Sd.mk hbv
    obtain ⟨v1, v2⟩ := bv
    have c0 := (blk_cell H5.out 0).trans rfl
    have c1 := (blk_cell H5.out 1).trans rfl
    have d0 := (blk_cell H4.out 0).trans rfl
    have d1 := (blk_cell H4.out 1).trans rfl
    have f0 := blk_frozen H4.out 0
    have f1 := blk_frozen H4.out 1
    clear hbv
    go_wp2
    exact bodyPost_ret (v := .agg #[.int .i64 v1, .int .i64 v2]) (by simp [results, Tryz.results44, go_sem, d0, d1]) rfl ⟨by rw [HBV.out], (HW.out.setCell (by simp) _).setCell (by simp) _⟩
end Go.Proofs.YtcmiehddjgfjaaaGreat.A
namespace Go.Proofs.YtcmiehddjgfjaaaGreat.B
open Go.RowKit Go.Proofs.YtcmiehddjgfjaaaGreatW.PrintWords Go.Proofs.YtcmiehddjgfjaaaGreatW.PrintLast Go.Proofs.YtcmiehddjgfjaaaGreatW.PrintMore
attribute [local go_sem] max2_int min2_int max_two min_two max_three min_three max_four min_four   -- for this text's walks alone
def errW : Option Int → Value
 | none => .nilIface
 | some c => .iface 0 (.int .i64 c)
theorem errW_none : errW none = .nilIface := rfl
theorem errW_some (c : Int) : errW (some c) = .iface 0 (.int .i64 c) := rfl
def slices_Index_string_string.l0 : Nat → List ByteArray → ByteArray → Int → Int → Option (Int)
 | 0, _, _, _, _ => none
 | k + 1, x0, x1, x7, x8 => if x8 < x7 then (if 0 ≤ x8 then (if x8 < (x0.length : Int) then (if x1.toList = (rdOf ByteArray.empty x0 x8).toList then (some x8) else (slices_Index_string_string.l0 k x0 x1 x7 (wrap64 (x8 + 1)))) else (none)) else (none)) else (some (-1))
def slices_Index_string_string.f (k : Nat) (l0 : List ByteArray) (a1 : ByteArray) : Option (Int) := slices_Index_string_string.l0 k l0 a1 (l0.length : Int) 0
theorem slices_Index_string_string.mono_l : ∀ k, (∀ y0 y1 y2 y3, LeO (slices_Index_string_string.l0 k y0 y1 y2 y3) (slices_Index_string_string.l0 (k + 1) y0 y1 y2 y3))
 | 0 => fun _ _ _ _ r h => by simp [slices_Index_string_string.l0] at h
 | k + 1 => by
  have ih0 := slices_Index_string_string.mono_l k
  ·intro y0 y1 y2 y3
   unfold slices_Index_string_string.l0
   repeat' first
   | (with_reducible exact ih0 _ _ _ _)
   | (with_reducible exact LeO.refl _)
   | (with_reducible exact LeO.none _)
   | (with_reducible refine LeO.ite ?_ ?_)
   | (with_reducible refine LeO.bind ?_ (fun _ => ?_))
   | exact ih0 _ _ _ _
   | exact LeO.none _
   | refine LeO.ite ?_ ?_
   | refine LeO.bind ?_ (fun _ => ?_)
theorem slices_Index_string_string.mono : ∀ a0 a1 k, LeO (slices_Index_string_string.f k a0 a1) (slices_Index_string_string.f (k + 1) a0 a1) := by
 intro a0 a1 k
 have ih0 := slices_Index_string_string.mono_l k
 unfold slices_Index_string_string.f
 repeat' first
   | (with_reducible exact ih0 _ _ _ _)
   | (with_reducible exact LeO.refl _)
   | (with_reducible exact LeO.none _)
   | (with_reducible refine LeO.ite ?_ ?_)
   | (with_reducible refine LeO.bind ?_ (fun _ => ?_))
   | exact ih0 _ _ _ _
   | exact LeO.none _
   | refine LeO.ite ?_ ?_
   | refine LeO.bind ?_ (fun _ => ?_)
theorem slices_Index_string_string.calls (k : Nat) (A0 : Option Addr) (c0 : Nat) (l0 : List ByteArray) (a1 : ByteArray) (r : Int) (w : World) (hr0 : Kd.C Kd.string w A0 l0.length l0) (hc0 : l0.length ≤ c0) (h : slices_Index_string_string.f k l0 a1 = some r) :
  Calls Tryz.prog 71 #[.slice A0 l0.length c0, .string a1] w fun e w' => e = .returned (.int .i64 r) ∧ Drawn0 w w' := by
 have HR0 := Sd.mk hr0
 have HC0 := Sd.mk hc0
 clear hr0 hc0
 have H : (slices_Index_string_string.l0 k l0 a1 (l0.length : Int) 0) = some r := h
 clear h
 have H' := Sd.mk H
 clear H
 go_enter Tryz.func71, Tryz.ntmps71
 go_wp2
 go_loopg [8] k (fun kq v8 w' => ∃ (x8_1 : Int), v8 = .int .i64 x8_1 ∧ Sd (slices_Index_string_string.l0 kq l0 a1 (l0.length : Int) x8_1 = some r) ∧ Sd (kq ≤ k) ∧ Drawn0 w w')
 case atStart => exact ⟨(0), (by first | rfl | (simp; done) | (simp [*]; done)), H', ⟨Nat.le_refl _⟩, by repeat (first | exact Drawn0.refl _ | apply Drawn0.step)⟩
 case round =>
  clear H'
  try clear p2
  obtain ⟨x8_1, rfl, HA, HK1, ⟨m1, rfl⟩⟩ := hrel
  cases gk with
  | zero => exact absurd HA.out (by simp [slices_Index_string_string.l0])
  | succ k1 =>
   have H := HA.out
   clear HA
   simp only [slices_Index_string_string.l0] at H
   by_cases c3 : x8_1 < (l0.length : Int)
   ·rw [if_pos c3] at H
    have c3b0 : decide (x8_1 < (l0.length : Int)) = true := decide_eq_true c3
    clear c3
    by_cases c4 : 0 ≤ x8_1
    ·rw [if_pos c4] at H
     have c4b0 : decide (0 ≤ x8_1) = true := decide_eq_true c4
     clear c4
     by_cases c5 : x8_1 < (l0.length : Int)
     ·rw [if_pos c5] at H
      have c5b0 : decide (x8_1 < (l0.length : Int)) = true := decide_eq_true c5
      clear c5
      by_cases c6 : a1.toList = (rdOf ByteArray.empty l0 x8_1).toList
      ·rw [if_pos c6] at H
       have c6b0 : (a1.toList == (rdOf ByteArray.empty l0 x8_1).toList) = true := beq_iff_eq.mpr c6
       have c6b1 : (a1.toList != (rdOf ByteArray.empty l0 x8_1).toList) = false := bne_eq_false_iff_eq.mpr c6
       clear c6
       obtain rfl := Option.some.inj H
       have p101 : 0 ≤ (x8_1 : Int) := of_decide_eq_true (by first | (with_reducible assumption) | assumption)
       have q101 : x8_1 < (l0.length : Int) := of_decide_eq_true (by first | (with_reducible assumption) | assumption)
       obtain ⟨ad101, e101, hx101_0⟩ := Kd.at_string HR0.out x8_1 p101 q101
       cases e101
       replace p101 := eq_true p101
       replace q101 := eq_true q101
       go_wp2
       go_ret
       exact ⟨by first | rfl | (simp; done) | (simp [*]; done), by repeat (first | exact Drawn0.refl _ | apply Drawn0.step)⟩
      ·rw [if_neg c6] at H
       have c6b0 : (a1.toList == (rdOf ByteArray.empty l0 x8_1).toList) = false := beq_eq_false_iff_ne.mpr c6
       have c6b1 : (a1.toList != (rdOf ByteArray.empty l0 x8_1).toList) = true := bne_iff_ne.mpr c6
       have H' := Sd.mk H
       clear H
       have p101 : 0 ≤ (x8_1 : Int) := of_decide_eq_true (by first | (with_reducible assumption) | assumption)
       have q101 : x8_1 < (l0.length : Int) := of_decide_eq_true (by first | (with_reducible assumption) | assumption)
       obtain ⟨ad101, e101, hx101_0⟩ := Kd.at_string HR0.out x8_1 p101 q101
       cases e101
       replace p101 := eq_true p101
       replace q101 := eq_true q101
       go_wp2
       go_roundg k1
       case measure => have := HK1.out; omega
       case rel => exact ⟨(wrap64 (x8_1 + 1)), (by first | rfl | (simp; done) | (simp [*]; done)), H', ⟨by have := HK1.out; omega⟩, by repeat (first | exact Drawn0.refl _ | apply Drawn0.step)⟩
     ·rw [if_neg c5] at H
      exact absurd H (by simp)
    ·rw [if_neg c4] at H
     exact absurd H (by simp)
   ·rw [if_neg c3] at H
    have c3b0 : decide (x8_1 < (l0.length : Int)) = false := decide_eq_false c3
    clear c3
    obtain rfl := Option.some.inj H
    go_wp2
    go_ret
    exact ⟨by first | rfl | (simp; done) | (simp [*]; done), by repeat (first | exact Drawn0.refl _ | apply Drawn0.step)⟩
def slices_Contains_string_string.f (k : Nat) (l0 : List ByteArray) (a1 : ByteArray) : Option (Bool) := (slices_Index_string_string.f k l0 a1).bind fun t102 => (some (decide (t102 ≥ 0)))
theorem slices_Contains_string_string.mono : ∀ a0 a1 k, LeO (slices_Contains_string_string.f k a0 a1) (slices_Contains_string_string.f (k + 1) a0 a1) := by
 intro a0 a1 k
 unfold slices_Contains_string_string.f
 repeat' first
   | (with_reducible exact slices_Index_string_string.mono _ _ _)
   | (with_reducible exact LeO.refl _)
   | (with_reducible exact LeO.none _)
   | (with_reducible refine LeO.ite ?_ ?_)
   | (with_reducible refine LeO.bind ?_ (fun _ => ?_))
   | exact slices_Index_string_string.mono _ _ _
   | exact LeO.none _
   | refine LeO.ite ?_ ?_
   | refine LeO.bind ?_ (fun _ => ?_)
theorem slices_Contains_string_string.calls (k : Nat) (A0 : Option Addr) (c0 : Nat) (l0 : List ByteArray) (a1 : ByteArray) (r : Bool) (w : World) (hr0 : Kd.C Kd.string w A0 l0.length l0) (hc0 : l0.length ≤ c0) (h : slices_Contains_string_string.f k l0 a1 = some r) :
  Calls Tryz.prog 30 #[.slice A0 l0.length c0, .string a1] w fun e w' => e = .returned (.bool r) ∧ Drawn0 w w' := by
 have HR0 := Sd.mk hr0
 have HC0 := Sd.mk hc0
 clear hr0 hc0
 have H : ((slices_Index_string_string.f k l0 a1).bind fun t102 => (some (decide (t102 ≥ 0)))) = some r := h
 clear h
 replace H := Option.bind_eq_some_iff.mp H
 obtain ⟨t102, A30, H⟩ := H
 replace H : (some (decide (t102 ≥ 0))) = some r := H
 have A3 := Sd.mk A30
 clear A30
 obtain rfl := Option.some.inj H
 go_enter Tryz.func30, Tryz.ntmps30
 go_wp2_with (first | ((with_reducible refine gate_callee (f := 71) rfl ?_); refine goesL_ (some 7) rfl rfl Tryz.func71 (by kernel_rfl) rfl #[.slice A0 l0.length c0, .string a1] rfl (by (try simp only [List.map_toArray, List.map_cons, List.map_nil]); first | done | rfl | (simp only [List.length_drop, List.length_take]; rfl)) ?_; (with_reducible refine (slices_Index_string_string.calls k _ _ l0 a1 t102 _ ?side1 ?side2 A3.out).mono ?_); (case side1 => repeat (first | exact HR0.out | (with_reducible refine Kd.C_alloc ?_ _) | (with_reducible refine Kd.C_drewN ?_ _) | (with_reducible refine Kd.C_drew ?_))); (case side2 => exact HC0.out); rintro e w' ⟨rfl, ⟨nd, rfl⟩⟩; refine ⟨_, rfl, ?_⟩))
 go_ret
 exact ⟨by first | rfl | (simp; done) | (simp [*]; done), by repeat (first | exact Drawn0.refl _ | apply Drawn0.step)⟩
end Go.Proofs.YtcmiehddjgfjaaaGreat.B
namespace Go.Proofs.YtcmiehddjgfjaaaGreat.A
open Go.RowKit Go.Proofs.YtcmiehddjgfjaaaGreatW.PrintWords Go.Proofs.YtcmiehddjgfjaaaGreatW.PrintLast Go.Proofs.YtcmiehddjgfjaaaGreatW.PrintMore Go.Proofs.YtcmiehddjgfjaaaGreat.St Go.Proofs.YtcmiehddjgfjaaaGreat.Stable
def hMean : List UInt8 := [109, 101, 97, 110]
def hows : List ByteArray := [⟨#[108, 97, 115, 116]⟩, ⟨#[109, 105, 110]⟩, ⟨#[109, 97, 120]⟩, ⟨#[115, 117, 109]⟩, ⟨#[109, 101, 97, 110]⟩, ⟨#[99, 111, 117, 110, 116]⟩]
def howOk (h : ByteArray) : Bool := hows.any fun x => decide (h.toList = x.toList)
def badP (x : Pt) : Bool := !decide (isV (valP x))
/-- slices.Contains at a row of texts. -/
theorem strs_loop (l : List ByteArray) (hl : l.length < 4611686018427387904) (a : ByteArray) : ∀ (d i : Nat), i + d = l.length → Ev (fun k => B.slices_Index_string_string.l0 k l a (l.length : Int) (i : Int)) (if (l.drop i).any (fun x => decide (a.toList = x.toList)) = true then ((i + (l.drop i).findIdx (fun x => decide (a.toList = x.toList)) : Nat) : Int) else -1)
 | 0, i, h => by
  have e1 : l.drop i = [] := List.drop_of_length_le (by omega)
  rw [e1]
  refine Ev.step (f := fun _ => some (-1)) (fun k => ?_) (Ev.now _)
  simp only [B.slices_Index_string_string.l0]
  rw [if_neg (by omega)]
 | d + 1, i, h => by
  have hi : i < l.length := by omega
  have el : l.drop i = l[i] :: l.drop (i + 1) := List.drop_eq_getElem_cons hi
  have er : rdOf ByteArray.empty l (i : Int) = l[i] := by unfold rdOf; rw [Int.toNat_natCast, List.getD_eq_getElem?_getD, List.getElem?_eq_getElem hi]; rfl
  rw [el, List.any_cons, List.findIdx_cons]
  by_cases e : a.toList = l[i].toList
  ·rw [decide_eq_true e, Bool.true_or, if_pos rfl]
   refine Ev.step (f := fun _ => some (i : Int)) (fun k => ?_) (Ev.now _)
   simp only [B.slices_Index_string_string.l0]
   rw [if_pos (by omega), if_pos (by omega), if_pos (by omega), er, if_pos e]
  ·rw [decide_eq_false e, Bool.false_or]
   have ih := strs_loop l hl a d (i + 1) (by omega)
   refine Ev.step (f := fun k => B.slices_Index_string_string.l0 k l a (l.length : Int) ((i + 1 : Nat) : Int)) (fun k => ?_) ?_
   ·simp only [B.slices_Index_string_string.l0]
    rw [if_pos (by omega), if_pos (by omega), if_pos (by omega), er, if_neg e, wrap_nat (by omega)]
   ·have e2 : ((i + 1 + (l.drop (i + 1)).findIdx (fun x => decide (a.toList = x.toList)) : Nat) : Int) = ((i + ((l.drop (i + 1)).findIdx (fun x => decide (a.toList = x.toList)) + 1) : Nat) : Int) := by omega
    rw [e2] at ih
    exact ih
theorem strs_ev (l : List ByteArray) (hl : l.length < 4611686018427387904) (a : ByteArray) : Ev (fun k => B.slices_Contains_string_string.f k l a) (l.any fun x => decide (a.toList = x.toList)) := by
 have h := strs_loop l hl a l.length 0 (by omega)
 rw [List.drop_zero] at h
 unfold B.slices_Contains_string_string.f
 refine Ev.bind (f := fun k t => some (decide (t ≥ 0))) h ?_
 refine Ev.congr (f := fun _ => some (l.any fun x => decide (a.toList = x.toList))) (fun k => ?_) (Ev.now _)
 congr 1
 cases l.any fun x => decide (a.toList = x.toList) with
 | true => rw [if_pos rfl]; simp
 | false => rw [if_neg (by simp)]; rfl
theorem fresh_S (w : World) (xs : List ByteArray) (hx : xs.length ≤ 9223372036854775807) : Kd.C Kd.string (w.alloc (.cells (xs.map Value.string).toArray 9)) (some ⟨w.heap.size, 0, none⟩) xs.length xs := by
 have r := blk_new w (.cells (xs.map Value.string).toArray 9)
 refine ⟨rfl, hx, fun _ => ⟨_, rfl, fun j p hp => ⟨[.string p], rfl, rfl, fun i u hu => ?_⟩⟩⟩
 match i, hu with
 | 0, hu =>
  rw [Kd.string] at *
  rw [add_at, Nat.zero_add]
  have e := blk_cell r (j * 1 + 0)
  refine Eq.trans (Eq.trans ?_ e) ?_
  ·rfl
  ·rw [Nat.mul_one, Nat.add_zero]
   simp only [List.getElem?_toArray, List.getElem?_map, hp]
   simpa using hu
 | i + 1, hu => simp at hu
theorem howOk_calls (how : ByteArray) (w : World) : Calls Tryz.prog 30 #[.slice (some ⟨w.heap.size, 0, none⟩) 6 6, .string how] (w.alloc (.cells #[.string ⟨#[108, 97, 115, 116]⟩, .string ⟨#[109, 105, 110]⟩, .string ⟨#[109, 97, 120]⟩, .string ⟨#[115, 117, 109]⟩, .string ⟨#[109, 101, 97, 110]⟩, .string ⟨#[99, 111, 117, 110, 116]⟩] 9)) fun e w' => e = .returned (.bool (howOk how)) ∧ Below w.heap.size w w' := by
 obtain ⟨k, hk⟩ := (strs_ev hows (by decide) how).rounds
 refine (B.slices_Contains_string_string.calls k _ 6 hows how _ _ (fresh_S w hows (by decide)) (by decide) hk).mono fun e w' ⟨he, hw⟩ => ⟨he, ?_⟩
 obtain ⟨n, rfl⟩ := hw
 exact pbd (below1 w _) n
theorem red1_calls (x : Pt) (w : World) : Calls Tryz.prog 32 #[.agg #[.int .i64 x.f0, .int .i64 x.f1.f0, .int .i64 x.f1.f1]] w fun e w' => e = .returned (.bool (badP x)) ∧ Below w.heap.size w w' := by
 have hb := below1 w (.cells #[.int .i64 x.f0, .int .i64 x.f1.f0, .int .i64 x.f1.f1] 39)
 have HC := Sd.mk (check1_fresh x.f1.f0 x.f1.f1 (w.alloc (.cells #[.int .i64 x.f0, .int .i64 x.f1.f0, .int .i64 x.f1.f1] 39)))
 have HB := Sd.mk hb
 simp only [World.size_alloc] at HC
 unfold badP valP
 clear hb
 by_cases h : isV (x.f1.f0, x.f1.f1)
 ·rw [if_pos h] at HC
  rw [decide_eq_true h]
  clear h
  go_enter Tryz.func32, Tryz.ntmps32
  go_wp2_with (go_at_call 33; refine HC.out.mono ?_; rintro e w1 ⟨rfl, hb1⟩; have HE := Sd.mk (HB.out.trans (hb1.mono (by omega))); clear hb1)
  go_ret
  exact ⟨rfl, HE.out⟩
 ·rw [if_neg h] at HC
  rw [decide_eq_false h]
  clear h
  go_enter Tryz.func32, Tryz.ntmps32
  go_wp2_with (go_at_call 33; refine HC.out.mono ?_; rintro e w1 ⟨rfl, hb1⟩; have HE := Sd.mk (HB.out.trans (hb1.mono (by omega))); clear hb1)
  go_ret
  exact ⟨rfl, HE.out⟩
theorem many_calls (A : Option Addr) (c : Nat) (p : List Pt) (w : World) (hr : Kd.C k39 w A p.length p) (hc : p.length ≤ c) (hm : p.length < 9223372036854775) :
  Calls Tryz.prog 38 #[.slice A p.length c] w fun e w' => e = .returned (.agg #[.int .i64 (vNum (1000 * (p.length : Int))).1, .int .i64 (vNum (1000 * (p.length : Int))).2]) ∧ Below w.heap.size w w' :=
 s_many.calls A c p _ _ w hr hc (by unfold s_many.f; rw [show wrap64 (1000 * (p.length : Int)) = 1000 * (p.length : Int) by unfold wrap64; omega, num_is]; rfl)
theorem total_at (A : Option Addr) (c : Nat) {p : List Pt} {x : Pt} {p' : List Pt} (hp : p = x :: p') (w : World) (hr : Kd.C k39 w A p.length p) (hc : p.length ≤ c) :
  Calls Tryz.prog 44 #[.slice A p.length c] w fun e w' => e = .returned (.agg #[.int .i64 (totalGo (valP x) p').1, .int .i64 (totalGo (valP x) p').2]) ∧ Below w.heap.size w w' := by
 subst hp; exact total_calls A c x p' w hr hc
attribute [local go_sem high] eqA62
theorem ljoin_calls (A B : Option Addr) (ca cb : Nat) (a b : List Lab) (ha : LabsOk a) (hb : LabsOk b) (hn : (a.length + b.length) * 32 ≤ 140737488355328) (w : World) (hA : Kd.C k62 w A a.length a) (hB : Kd.C k62 w B b.length b) :
  Calls Tryz.prog 64 #[.slice A a.length ca, .slice B b.length cb] w fun e w' => ∃ v : Value, e = .returned (.tuple #[v, .bool (vJoinL a b).2]) ∧ Kd.R k62 62 w' w.heap.size (fun _ => True) v (vJoinL a b).1 ∧ Below w.heap.size w w' := by
 generalize hrr : vJoinL a b = r
 have HRR := Sd.mk hrr
 have HA := Sd.mk hA
 have HB := Sd.mk hB
 have HN := Sd.mk hn
 have HLA := Sd.mk ha
 have HLB := Sd.mk hb
 have hbl : b.length < 4611686018427387904 := hb.1
 clear hrr hA hB hn ha hb
 have mixed : Tryz.prog.follows .mixedOrders = true := by kernel_rfl
 go_enter Tryz.func64, Tryz.ntmps64
 go_wp2_with (go_at_call 105; refine (cloneLabel A ca a _ HA.out (by have := HN.out; omega)).mono ?_; rintro e w2 ⟨v, rfl, hv, hb2⟩; have HV := Sd.mk hv; have HB2 := Sd.mk hb2; clear hv hb2)
 go_loopw [6, 16] (fun v6 v16 wr => ∃ (i : Nat) (all : List Lab), i ≤ b.length ∧ v16 = .int .i64 i ∧ Sd (joinGo a a b = joinGo a all (b.drop i)) ∧ Sd (all.length ≤ a.length + i) ∧ Sd (∀ x ∈ all, x ∈ a ∨ x ∈ b) ∧ Sd (Kd.R k62 62 wr w.heap.size (fun _ => True) v6 all) ∧ Sd (Below w.heap.size w wr)) (fun _ v16 _ => b.length - (intOf v16).toNat)
 case atStart => exact ⟨0, a, Nat.zero_le _, rfl, ⟨rfl⟩, ⟨Nat.le_refl _⟩, ⟨fun x h => .inl h⟩, HV, HB2⟩
 case round =>
  clear HV HB2
  obtain ⟨i, all, hi, rfl, HT, HG, HI, HO, HW⟩ := hrel
  by_cases hlt : i < b.length
  ·have b1 : (i : Int) < (b.length : Int) := by omega
   obtain ⟨ad, rfl, p0, p1⟩ := at_T62 (Kd.C_below HB.out HW.out) (i : Int) (by omega) (by omega)
   rw [Int.toNat_natCast, rdL_at hlt] at p0 p1
   have hst : joinGo a all (b.drop i) = if getL a b[i].f0 = ⟨#[]⟩ then joinGo a (all ++ [b[i]]) (b.drop (i + 1)) else if getL a b[i].f0 = b[i].f1 then joinGo a all (b.drop (i + 1)) else none := by rw [List.drop_eq_getElem_cons hlt, joinGo]
   have HX := Sd.mk (HT.out.trans hst)
   have HXB := Sd.mk (List.getElem_mem hlt)
   clear hst HT
   generalize b[i] = y at p0 p1 HX HXB
   obtain ⟨s, t⟩ := y
   simp only at p0 p1 HX
   have hb0 := bal (Below.refl wr.heap.size wr) (.cells #[.string s, .string t] 62)
   have HGet := Sd.mk (get_calls A ca a s _ (Kd.C_below HA.out (HW.out.trans (hb0.mono HW.out.size))))
   have X0 := Sd.mk (blk_new wr (.cells #[.string s, .string t] 62))
   have HB0 := Sd.mk hb0
   clear hb0
   generalize getL a s = g at HGet HX
   by_cases he : g = ⟨#[]⟩
   ·subst he
    have HZ := Sd.mk (HX.out.trans (if_pos rfl))
    clear HX
    go_wp2_with fail
    refine HGet.out.mono ?_
    rintro e w1 ⟨rfl, hb1⟩
    have H1 := Sd.mk (HB0.out.trans (hb1.mono HB0.out.size))
    have c0 := (blk_cell (blk_below X0.out hb1) 0).trans rfl
    have c1 := (blk_cell (blk_below X0.out hb1) 1).trans rfl
    clear hb1
    have HO1 := Sd.mk (Kd.R_below HO.out H1.out)
    have HW1 := Sd.mk (HW.out.trans (H1.out.mono HW.out.size))
    go_wp2_with ((with_reducible refine gate_builtin (b := .append) (xs := #[.tmp 27, .tmp 29]) rfl ?_); at_builtin; refine Kd.R_append k62 (w0 := w) w.heap.size rfl (.tmp 27) (.tmp 29) 35 62 (.agg #[(.string ⟨#[]⟩), (.string ⟨#[]⟩)]) 32 rfl Tryz.underlying35 info62 rfl (by decide) (by omega) u6 all (⟨s, t⟩ : Lab) [.string s, .string t] (fun _ => True) (fun _ => False) rfl rfl ?aP (fun _ hk => hk.elim) ?aF ?aO ?aB ?aS ?aL ?_; (case aP => exact k62_mkM _ _ _ (⟨s, t⟩ : Lab)); (case aB => exact HW1.out); (case aF => exact (fun _ _ => trivial)); (case aO => exact HO1.out); (case aS => exact HW1.out.size); (case aL => have := HG.out; have := HN.out; omega); intro v7 w3 ho hb3 hg hat; have HO2 := Sd.mk ho; have HW2 := Sd.mk hb3; clear ho hb3 hg hat)
    go_roundw
    case rel => exact ⟨i + 1, all ++ [⟨s, t⟩], by omega, by go_num, HZ, ⟨by have := HG.out; simp; omega⟩, ⟨fun x hx => by
     rcases List.mem_append.1 hx with h | h
     ·exact HI.out x h
     ·rw [List.mem_singleton.1 h]; exact .inr HXB.out⟩, HO2, HW2⟩
    case measure => simp [intOf]; omega
   ·have hX2 := HX.out
    rw [if_neg he] at hX2
    have e0 : ¬ g.toList = ([] : List UInt8) := fun h => he ((toList_eq g ⟨#[]⟩).1 (h.trans (by rw [Lib.toList_data])))
    have e1 : (g.toList == ([] : List UInt8)) = false := by simpa using e0
    have e2 : g.toList.isEmpty = false := by simpa using e0
    clear HX he
    by_cases ht : g = t
    ·subst ht
     rw [if_pos rfl] at hX2
     have HZ := Sd.mk hX2
     clear hX2
     go_wp2_with fail
     refine HGet.out.mono ?_
     rintro e w1 ⟨rfl, hb1⟩
     have H1 := Sd.mk (HB0.out.trans (hb1.mono HB0.out.size))
     have c0 := (blk_cell (blk_below X0.out hb1) 0).trans rfl
     have c1 := (blk_cell (blk_below X0.out hb1) 1).trans rfl
     clear hb1
     have HO1 := Sd.mk (Kd.R_below HO.out H1.out)
     have HW1 := Sd.mk (HW.out.trans (H1.out.mono HW.out.size))
     go_wp2
     go_roundw
     case rel => exact ⟨i + 1, all, by omega, by go_num, HZ, ⟨by have := HG.out; omega⟩, HI, HO1, HW1⟩
     case measure => simp [intOf]; omega
    ·rw [if_neg ht] at hX2
     have HZ := Sd.mk hX2
     have f0 : (g.toList == t.toList) = false := by rw [beq_eq_false_iff_ne]; exact fun h => ht ((toList_eq _ _).1 h)
     have f1 : ¬ g.toList = t.toList := fun h => ht ((toList_eq _ _).1 h)
     clear hX2 ht
     go_wp2_with fail
     refine HGet.out.mono ?_
     rintro e w1 ⟨rfl, hb1⟩
     have H1 := Sd.mk (HB0.out.trans (hb1.mono HB0.out.size))
     have c0 := (blk_cell (blk_below X0.out hb1) 0).trans rfl
     have c1 := (blk_cell (blk_below X0.out hb1) 1).trans rfl
     clear hb1
     have HW1 := Sd.mk (HW.out.trans (H1.out.mono HW.out.size))
     go_wp2
     go_ret2
     have er : r = ([], false) := by rw [← HRR.out]; unfold vJoinL; rw [HZ.out]
     exact ⟨.slice none 0 0, by rw [er]; rfl, by rw [er]; exact Kd.R_nil _ _ _ _ _, HW1.out⟩
  ·have n1 : decide ((i : Int) < (b.length : Int)) = false := decide_eq_false (by omega)
   have n2 : decide (i < b.length) = false := decide_eq_false hlt
   have hz : joinGo a a b = some all := by rw [HT.out, List.drop_of_length_le (by omega), joinGo]
   have er0 : r = ((vMake all).1, (vMake all).2 == 0) := by rw [← HRR.out]; unfold vJoinL; rw [hz]
   have hal : all.length ≤ a.length + b.length := by have := HG.out; omega
   have hok : LabsOk all := ⟨by have := HN.out; omega, fun x hx => (HI.out x hx).elim (HLA.out.2 x) (HLB.out.2 x)⟩
   obtain ⟨A3, c3, rfl, _, hC3⟩ := Kd.R_reads HO.out
   have HM := Sd.mk (lmake_calls A3 c3 all hok (by have := HN.out; omega) wr hC3)
   generalize vMake all = m at er0 HM
   obtain ⟨ml, me⟩ := m
   simp only at er0 HM
   have ER := Sd.mk er0
   clear er0 hok hC3 hz hal HT hi hlt
   go_wp2_with fail
   refine HM.out.mono ?_
   rintro e w1 ⟨v, rfl, hv, hb1⟩
   have HV := Sd.mk (Kd.R_lower hv HW.out.size)
   have HE := Sd.mk (HW.out.trans (hb1.mono HW.out.size))
   clear hv hb1
   go_wp2
   go_ret2
   have er := ER.out
   exact ⟨v, by rw [er]; rfl, by rw [er]; exact HV.out, HE.out⟩
/-- A row that is only read, behind whatever leaves the blocks below B. -/
theorem N_under {W0 W : World} {base B : Nat} {v : Value} {xs : List Ser} (h : Kd.N k37 37 W0 base (fun k => k < B) v xs) (hb : Below B W0 W) : Kd.N k37 37 W base (fun k => k < B) v xs := Kd.N_step h (fun k hk _ => hb.block k hk)
/-- Element i of a row that is only read. -/
theorem read_at {W : World} {base : Nat} {ok : Nat → Prop} {A : Option Addr} {n c : Nat} {xs : List Ser} (HO : Kd.N k37 37 W base ok (.slice A n c) xs) (i : Nat) (hi : i < xs.length) :
  ∃ g A0 c0, A = some ⟨g, 0, none⟩ ∧ W.cell? ⟨g, i * 3, none⟩ = some (.slice A0 (xs[i]).f0.length c0) ∧ W.cell? ⟨g, i * 3 + 1, none⟩ = some (.int .i64 (xs[i]).f1.f0) ∧ W.cell? ⟨g, i * 3 + 2, none⟩ = some (.int .i64 (xs[i]).f1.f1) ∧ Kd.F k62 W ok A0 (xs[i]).f0.length (xs[i]).f0 := by
 obtain ⟨g, cp, hv, _, _, _⟩ := Kd.N_form HO (by omega)
 injection hv with hA hB hC
 subst hA
 obtain ⟨A0, c0, o0, o1, o2, l0, g0, hK⟩ := own_at HO i hi
 refine ⟨g, A0, c0, rfl, o0, o1, o2, fun W' hW => ?_⟩
 obtain ⟨A1, c1, e, _, g1⟩ := k37_open (hK W' (fun k hk hlt => hW k hk.1 hlt))
 injection e with e _
 injection e with e _ _
 subst e
 exact g1
theorem FK_new {W : World} {ok : Nat → Prop} {A : Option Addr} {c : Nat} {x : List Lab} {k n : Int} (h : Kd.F k62 W ok A x.length x) (hc : x.length ≤ c) : Kd.FK k37 W ok (⟨x, ⟨k, n⟩⟩ : Ser) [.slice A x.length c, .int .i64 k, .int .i64 n] := fun W' hW => k37_mk W' (⟨x, ⟨k, n⟩⟩ : Ser) hc (h W' hW)
theorem own_ne {W : World} {v v1 : Value} {b : Nat} (hat : v1.ownBlock = v.ownBlock ∨ ∃ b, v1.ownBlock = some b ∧ W.heap.size ≤ b) (hne : some b ≠ v.ownBlock) (hb : b < W.heap.size) : some b ≠ v1.ownBlock := by
 rcases hat with h | ⟨b', h, hle⟩
 ·rw [h]; exact hne
 ·rw [h]
  intro e
  injection e with e
  omega
theorem sjoin_calls (op : ByteArray) (A B : Option Addr) (c d : Nat) (a b : List Ser) (ha : SersOk a) (hb : SersOk b) (w : World) (hA : Kd.C k37 w A a.length a) (hB : Kd.C k37 w B b.length b) :
  Calls Tryz.prog 19 #[.string op, .slice A a.length c, .slice B b.length d] w fun e w' => ∃ v : Value, e = .returned (.tuple #[v, .int .i64 (vJoin op a b).2]) ∧ Kd.N k37 37 w' w.heap.size (fun _ => True) v (vJoin op a b).1 ∧ Below w.heap.size w w' := by
 have HSa := Sd.mk (ssort_calls A c a ha w hA)
 have HSb := Sd.mk (fun (w1 : World) (h : Below w.heap.size w w1) => ssort_calls B d b hb w1 (Kd.C_below hB h))
 have HK := Sd.mk (fun w1 => knows2_calls op w1)
 have HMa := Sd.mk (fun (h : (vSort a).2 = 0) => And.intro (fun x hx => (vSort_ok h).1 x ((vSort_mem h).1 hx)) (vSort_len h))
 have HMb := Sd.mk (fun (h : (vSort b).2 = 0) => And.intro (fun x hx => (vSort_ok h).1 x ((vSort_mem h).1 hx)) (vSort_len h))
 unfold vJoin
 clear ha hb hA hB
 generalize vSort a = ra at HSa HMa ⊢
 generalize vSort b = rb at HSb HMb ⊢
 obtain ⟨p, e1⟩ := ra
 obtain ⟨q, e2⟩ := rb
 simp only at HSa HSb HMa HMb ⊢
 generalize (vDo op [(1, 0), (1, 0)]).2 = kn at HK ⊢
 have mixed : Tryz.prog.follows .mixedOrders = true := by kernel_rfl
 by_cases h1 : e1 = 0
 ·subst h1
  rw [if_pos rfl]
  by_cases h2 : e2 = 0
  ·subst h2
   rw [if_pos rfl]
   by_cases hk : kn = 0
   ·rw [if_pos hk]
    rw [decide_eq_true hk] at HK
    clear hk
    have hPs := (HMa.out rfl).1
    have hQs := (HMb.out rfl).1
    have lp := (HMa.out rfl).2
    have lq := (HMb.out rfl).2
    have HPs := Sd.mk hPs
    have HQs := Sd.mk hQs
    have HOK := Sd.mk (pairsJ_ok (op := op) hPs hQs lp lq)
    clear hPs hQs HMa HMb
    go_enter Tryz.func19, Tryz.ntmps19
    go_wp2_with fail
    refine HSa.out.mono ?_
    rintro e w1 ⟨va, rfl, hva, hb1⟩
    have HB1 := Sd.mk hb1
    have HSb1 := Sd.mk (HSb.out w1 hb1)
    obtain ⟨A3, c3, rfl, _, _⟩ := Kd.N_reads hva
    have HVa := Sd.mk hva
    clear hva hb1 HSb HSa
    go_wp2_with fail
    refine HSb1.out.mono ?_
    rintro e w2 ⟨vb, rfl, hvb, hb2⟩
    have HB2 := Sd.mk (HB1.out.trans (hb2.mono HB1.out.size))
    have HVa2 := Sd.mk (Kd.N_below HVa.out hb2)
    obtain ⟨B3, d3, rfl, _, _⟩ := Kd.N_reads hvb
    have HVb2 := Sd.mk (Kd.N_lower hvb HB1.out.size)
    clear hvb hb2 HB1 HVa HSb1
    go_wp2_with fail
    refine (HK.out w2).mono ?_
    rintro e w3 ⟨rfl, hb3⟩
    have HB3 := Sd.mk (HB2.out.trans (hb3.mono HB2.out.size))
    have HPa := Sd.mk (Kd.N_mono (Kd.N_bound (Kd.N_below HVa2.out hb3)) (ok' := fun k => k < w3.heap.size) (fun k hk => hk.2))
    have HPb := Sd.mk (Kd.N_mono (Kd.N_bound (Kd.N_below HVb2.out hb3)) (ok' := fun k => k < w3.heap.size) (fun k hk => hk.2))
    clear hb3 HVa2 HVb2 HB2
    go_wp2
    go_loopw [6, 39] (fun v6 v39 wr => ∃ i : Nat, i ≤ p.length ∧ v39 = .int .i64 i ∧ Sd (Kd.N k37 37 wr w3.heap.size (fun _ => True) v6 (pairsJ op (p.take i) q)) ∧ Sd (Below w3.heap.size w3 wr)) (fun _ v39 _ => p.length - (intOf v39).toNat)
    case atStart => exact ⟨0, Nat.zero_le _, rfl, ⟨Kd.N_nil _ _ _ _ _⟩, ⟨Below.refl _ _⟩⟩
    case round =>
     obtain ⟨i, hi, rfl, HO, HW⟩ := hrel
     rename World => wo
     by_cases hlt : i < p.length
     ·have b1 : (i : Int) < (p.length : Int) := by omega
      obtain ⟨ga, Ax, cx, hAe, x0, x1, x2, hFx⟩ := read_at (N_under HPa.out HW.out) i hlt
      subst hAe
      have HPst := Sd.mk (pairsJ_step op p q i hlt)
      have HxS := Sd.mk (HPs.out _ (List.getElem_mem hlt))
      have HFx := Sd.mk (Kd.F_bound hFx)
      have HoL := Sd.mk (Nat.le_trans (pairsJ_len op q (p.take i)) (Nat.mul_le_mul (by rw [List.length_take]; omega : (p.take i).length ≤ 200) lq))
      generalize p[i] = x at x0 x1 x2 hFx HPst HxS HFx
      clear hFx
      have HX := Sd.mk (blk_new wo (.cells #[.slice Ax x.f0.length cx, .int .i64 x.f1.f0, .int .i64 x.f1.f1] 37))
      have HWx := Sd.mk (bal HW.out (.cells #[.slice Ax x.f0.length cx, .int .i64 x.f1.f0, .int .i64 x.f1.f1] 37))
      have HOx := Sd.mk (Kd.N_alloc HO.out (.cells #[.slice Ax x.f0.length cx, .int .i64 x.f1.f0, .int .i64 x.f1.f1] 37))
      have HNx := Sd.mk (show some wo.heap.size ≠ u6.ownBlock from fun e => Nat.lt_irrefl _ (Kd.N_lt HO.out _ e.symm))
      have Hbx := Sd.mk (show w3.heap.size ≤ wo.heap.size from HW.out.size)
      go_wp2
      generalize hout : pairsJ op (p.take i) q = out0 at HO HPst HoL HOx
      clear hout
      go_loopw [6, 45] (fun v6 v45 wr2 => ∃ j : Nat, j ≤ q.length ∧ v45 = .int .i64 j ∧ Sd (Kd.N k37 37 wr2 w3.heap.size (fun _ => True) v6 (out0 ++ rowJ op x (q.take j))) ∧ Sd (Below w3.heap.size w3 wr2) ∧ Sd (wr2.heap[wo.heap.size]? = some (.cells #[.slice Ax x.f0.length cx, .int .i64 x.f1.f0, .int .i64 x.f1.f1] 37 (0, 0))) ∧ Sd (some wo.heap.size ≠ v6.ownBlock)) (fun _ v45 _ => q.length - (intOf v45).toNat)
      case atStart => exact ⟨0, Nat.zero_le _, rfl, ⟨by simpa [rowJ] using HOx.out⟩, HWx, HX, HNx⟩
      case round =>
       clear HOx HWx HX HNx
       obtain ⟨j, hj, rfl, HO2, HW2, HX2, HN2⟩ := hrel
       by_cases hlj : j < q.length
       ·have b2 : (j : Int) < (q.length : Int) := by omega
        obtain ⟨gb, Ay, cy, hBe, y0, y1, y2, hFy⟩ := read_at (N_under HPb.out HW2.out) j hlj
        subst hBe
        have HRs := Sd.mk (rowJ_step op x q j hlj)
        have HyS := Sd.mk (HQs.out _ (List.getElem_mem hlj))
        have HLen := Sd.mk (show ((out0 ++ rowJ op x (q.take j)).length + 1) * 40 ≤ 140737488355328 by
         have e1 := rowJ_len op x (q.take j)
         have e2 : (q.take j).length ≤ 200 := by rw [List.length_take]; omega
         have e3 := HoL.out
         have e4 : 200 * q.length ≤ 200 * 200 := Nat.mul_le_mul (Nat.le_refl _) lq
         rw [List.length_append]; omega)
        generalize q[j] = y at y0 y1 y2 hFy HRs HyS
        have HY := Sd.mk (below1 wr (.cells #[.slice Ay y.f0.length cy, .int .i64 y.f1.f0, .int .i64 y.f1.f1] 37))
        have HCy := Sd.mk (Kd.C_below (Kd.F_now hFy) HY.out)
        have HCx := Sd.mk (Kd.C_below (Kd.F_now (Kd.F_step HFx.out (fun k hk _ => (HW2.out.block k hk.1).trans (HW.out.block k hk.1).symm))) HY.out)
        have YB := blk_new wr (.cells #[.slice Ay y.f0.length cy, .int .i64 y.f1.f0, .int .i64 y.f1.f1] 37)
        have g0 := (blk_cell YB 0).trans rfl
        have g1 := (blk_cell YB 1).trans rfl
        have g2 := (blk_cell YB 2).trans rfl
        have c0 := (blk_cell (blk_below HX2.out HY.out) 0).trans rfl
        have c1 := (blk_cell (blk_below HX2.out HY.out) 1).trans rfl
        have c2 := (blk_cell (blk_below HX2.out HY.out) 2).trans rfl
        clear YB hFy
        have HOY := Sd.mk (Kd.N_below HO2.out HY.out)
        have HWY := Sd.mk (HW2.out.trans (HY.out.mono HW2.out.size))
        have HI1 := Sd.mk (fun (w5 : World) (h : Below (wr.alloc (.cells #[.slice Ay y.f0.length cy, .int .i64 y.f1.f0, .int .i64 y.f1.f1] 37)).heap.size (wr.alloc (.cells #[.slice Ay y.f0.length cy, .int .i64 y.f1.f0, .int .i64 y.f1.f1] 37)) w5) => within_calls Ax Ay cx cy x.f0 y.f0 w5 (Kd.C_below HCx.out h) (Kd.C_below HCy.out h))
        have HI2 := Sd.mk (fun (w5 : World) (h : Below (wr.alloc (.cells #[.slice Ay y.f0.length cy, .int .i64 y.f1.f0, .int .i64 y.f1.f1] 37)).heap.size (wr.alloc (.cells #[.slice Ay y.f0.length cy, .int .i64 y.f1.f0, .int .i64 y.f1.f1] 37)) w5) => within_calls Ay Ax cy cx y.f0 x.f0 w5 (Kd.C_below HCy.out h) (Kd.C_below HCx.out h))
        unfold fits at HRs
        generalize inC x.f0 y.f0 = k1 at HRs HI1
        generalize inC y.f0 x.f0 = k2 at HRs HI2
        cases k1 with
        | true =>
         have HRt := Sd.mk (HRs.out.trans (by rfl : (rowJ op x (List.take j q) ++ (if (true || k2) = true then [joinS op x y] else [])) = rowJ op x (List.take j q) ++ [joinS op x y]))
         go_wp2_with fail
         refine (HI1.out _ (Below.refl _ _)).mono ?_
         rintro e w6 ⟨rfl, hb6⟩
         have HB6 := Sd.mk hb6
         replace c0 := pw_cell_below hb6 c0
         replace c1 := pw_cell_below hb6 c1
         replace c2 := pw_cell_below hb6 c2
         replace g0 := pw_cell_below hb6 g0
         replace g1 := pw_cell_below hb6 g1
         replace g2 := pw_cell_below hb6 g2
         clear hb6 HI1 HI2 HRs
         have HO6 := Sd.mk (Kd.N_below HO2.out (HY.out.trans (HB6.out.mono HY.out.size)))
         go_wp2_with fail
         refine (ljoin_calls Ax Ay cx cy x.f0 y.f0 (set_ok HxS.out).1 (set_ok HyS.out).1 (by have := (set_ok HxS.out).2; have := (set_ok HyS.out).2; omega) w6 (Kd.C_below HCx.out HB6.out) (Kd.C_below HCy.out HB6.out)).mono ?_
         rintro e w7 ⟨vj, rfl, hvj, hb7⟩
         obtain ⟨Aj, cj, rfl, hcj, hrd⟩ := Kd.R_reads hvj
         clear hrd
         have HVj := Sd.mk (Kd.R_mono (Kd.R_bound hvj) (ok' := fun k => w6.heap.size ≤ k) (fun k hk => hk.2.1))
         have HB7 := Sd.mk (HB6.out.trans (hb7.mono HB6.out.size))
         have Hcj := Sd.mk hcj
         have HN6 := Sd.mk (fun k (hk : w6.heap.size ≤ k) => And.intro True.intro (fun (e : some k = u6.ownBlock) => Nat.lt_irrefl _ (Nat.lt_of_lt_of_le (Kd.N_lt HO6.out k e.symm) hk)))
         replace c0 := pw_cell_below hb7 c0
         replace c1 := pw_cell_below hb7 c1
         replace c2 := pw_cell_below hb7 c2
         replace g0 := pw_cell_below hb7 g0
         replace g1 := pw_cell_below hb7 g1
         replace g2 := pw_cell_below hb7 g2
         clear hvj hb7 hcj HO6
         have HR2 := Sd.mk (HRt.out.trans (congrArg (fun z => rowJ op x (List.take j q) ++ [z]) (show joinS op x y = ⟨(vJoinL x.f0 y.f0).1, ⟨(vDo op [(x.f1.f0, x.f1.f1), (y.f1.f0, y.f1.f1)]).1.1, (vDo op [(x.f1.f0, x.f1.f1), (y.f1.f0, y.f1.f1)]).1.2⟩⟩ from rfl)))
         rcases hdo : vDo op [(x.f1.f0, x.f1.f1), (y.f1.f0, y.f1.f1)] with ⟨⟨r1, r2⟩, r3⟩
         have HD := Sd.mk (do2_any op x.f1.f0 x.f1.f1 y.f1.f0 y.f1.f1 w7 hdo)
         rw [hdo] at HR2
         clear hdo
         generalize hjr : vJoinL x.f0 y.f0 = jr at HVj Hcj HR2 ⊢
         obtain ⟨jl, jb⟩ := jr
         simp only at HVj Hcj HR2 ⊢
         clear hjr
         go_wp2_with fail
         refine HD.out.mono ?_
         rintro e w8 ⟨rfl, hb8⟩
         have HB8 := Sd.mk (HB7.out.trans ((hb8.mono (Nat.le_refl _)).mono HB7.out.size))
         have hba := bal hb8 (.cells #[.int .i64 r1, .int .i64 r2] 25)
         have hbb := bal HB8.out (.cells #[.int .i64 r1, .int .i64 r2] 25)
         have HVW := Sd.mk (Kd.R_below HVj.out hba)
         have HOW := Sd.mk (Kd.N_below HO2.out (HY.out.trans (hbb.mono HY.out.size)))
         have HWW := Sd.mk (HW2.out.trans ((HY.out.trans (hbb.mono HY.out.size)).mono HW2.out.size))
         have HXW := Sd.mk (blk_below HX2.out (HY.out.trans (hbb.mono HY.out.size)))
         clear hb8 hba hbb c0 c1 c2 g0 g1 g2
         go_wp2_with ((with_reducible refine gate_builtin (b := .append) (xs := #[.tmp 81, .tmp 85]) rfl ?_); at_builtin; refine Kd.N_append k37 (w0 := w3) w3.heap.size rfl (.tmp 81) (.tmp 85) 33 37 (.agg #[(.slice none 0 0), (.int .i64 0), (.int .i64 0)]) 40 rfl Tryz.underlying33 info37 rfl (by decide) (by omega) u6 (out0 ++ rowJ op x (List.take j q)) (⟨jl, ⟨r1, r2⟩⟩ : Ser) [.slice Aj jl.length cj, .int .i64 r1, .int .i64 r2] (fun _ => True) (fun k => w6.heap.size ≤ k) rfl ?aX ?aP ?aK ?aF ?aO ?aB ?aS ?aL ?_; (case aX => first | rfl | (go_simp; done)); (case aP => exact FK_new (Kd.R_F HVW.out) Hcj.out); (case aK => exact HN6.out); (case aF => exact (fun _ _ => trivial)); (case aO => exact HOW.out); (case aB => exact HWW.out); (case aS => exact HWW.out.size); (case aL => exact HLen.out); intro v7 w9 ho hb9 hg9 hat9; have HO9 := Sd.mk ho; have HW9 := Sd.mk hb9; have HX9 := Sd.mk ((hg9.block _ (Array.getElem?_eq_some_iff.1 HXW.out).1 HN2.out).trans HXW.out); have HN9 := Sd.mk (own_ne hat9 HN2.out (Array.getElem?_eq_some_iff.1 HXW.out).1); clear ho hb9 hg9 hat9)
         go_roundw
         case rel => exact ⟨j + 1, by omega, by go_num, ⟨by rw [HR2.out, ← List.append_assoc]; exact HO9.out⟩, HW9, HX9, HN9⟩
         case measure => simp [intOf]; omega
        | false =>
         cases k2 with
         | true =>
          have HRt := Sd.mk (HRs.out.trans (by rfl : (rowJ op x (List.take j q) ++ (if (false || true) = true then [joinS op x y] else [])) = rowJ op x (List.take j q) ++ [joinS op x y]))
          go_wp2_with fail
          refine (HI1.out _ (Below.refl _ _)).mono ?_
          rintro e w5 ⟨rfl, hb5⟩
          have HB5 := Sd.mk hb5
          have HC5 := Sd.mk (HI2.out w5 hb5)
          replace c0 := pw_cell_below hb5 c0
          replace c1 := pw_cell_below hb5 c1
          replace c2 := pw_cell_below hb5 c2
          replace g0 := pw_cell_below hb5 g0
          replace g1 := pw_cell_below hb5 g1
          replace g2 := pw_cell_below hb5 g2
          clear hb5 HI1 HI2 HRs
          go_wp2_with fail
          refine HC5.out.mono ?_
          rintro e w6 ⟨rfl, hb6⟩
          have HB6 := Sd.mk (HB5.out.trans (hb6.mono HB5.out.size))
          replace c0 := pw_cell_below hb6 c0
          replace c1 := pw_cell_below hb6 c1
          replace c2 := pw_cell_below hb6 c2
          replace g0 := pw_cell_below hb6 g0
          replace g1 := pw_cell_below hb6 g1
          replace g2 := pw_cell_below hb6 g2
          clear hb6 HC5 HB5
          have HO6 := Sd.mk (Kd.N_below HO2.out (HY.out.trans (HB6.out.mono HY.out.size)))
          go_wp2_with fail
          refine (ljoin_calls Ax Ay cx cy x.f0 y.f0 (set_ok HxS.out).1 (set_ok HyS.out).1 (by have := (set_ok HxS.out).2; have := (set_ok HyS.out).2; omega) w6 (Kd.C_below HCx.out HB6.out) (Kd.C_below HCy.out HB6.out)).mono ?_
          rintro e w7 ⟨vj, rfl, hvj, hb7⟩
          obtain ⟨Aj, cj, rfl, hcj, hrd⟩ := Kd.R_reads hvj
          clear hrd
          have HVj := Sd.mk (Kd.R_mono (Kd.R_bound hvj) (ok' := fun k => w6.heap.size ≤ k) (fun k hk => hk.2.1))
          have HB7 := Sd.mk (HB6.out.trans (hb7.mono HB6.out.size))
          have Hcj := Sd.mk hcj
          have HN6 := Sd.mk (fun k (hk : w6.heap.size ≤ k) => And.intro True.intro (fun (e : some k = u6.ownBlock) => Nat.lt_irrefl _ (Nat.lt_of_lt_of_le (Kd.N_lt HO6.out k e.symm) hk)))
          replace c0 := pw_cell_below hb7 c0
          replace c1 := pw_cell_below hb7 c1
          replace c2 := pw_cell_below hb7 c2
          replace g0 := pw_cell_below hb7 g0
          replace g1 := pw_cell_below hb7 g1
          replace g2 := pw_cell_below hb7 g2
          clear hvj hb7 hcj HO6
          have HR2 := Sd.mk (HRt.out.trans (congrArg (fun z => rowJ op x (List.take j q) ++ [z]) (show joinS op x y = ⟨(vJoinL x.f0 y.f0).1, ⟨(vDo op [(x.f1.f0, x.f1.f1), (y.f1.f0, y.f1.f1)]).1.1, (vDo op [(x.f1.f0, x.f1.f1), (y.f1.f0, y.f1.f1)]).1.2⟩⟩ from rfl)))
          rcases hdo : vDo op [(x.f1.f0, x.f1.f1), (y.f1.f0, y.f1.f1)] with ⟨⟨r1, r2⟩, r3⟩
          have HD := Sd.mk (do2_any op x.f1.f0 x.f1.f1 y.f1.f0 y.f1.f1 w7 hdo)
          rw [hdo] at HR2
          clear hdo
          generalize hjr : vJoinL x.f0 y.f0 = jr at HVj Hcj HR2 ⊢
          obtain ⟨jl, jb⟩ := jr
          simp only at HVj Hcj HR2 ⊢
          clear hjr
          go_wp2_with fail
          refine HD.out.mono ?_
          rintro e w8 ⟨rfl, hb8⟩
          have HB8 := Sd.mk (HB7.out.trans ((hb8.mono (Nat.le_refl _)).mono HB7.out.size))
          have hba := bal hb8 (.cells #[.int .i64 r1, .int .i64 r2] 25)
          have hbb := bal HB8.out (.cells #[.int .i64 r1, .int .i64 r2] 25)
          have HVW := Sd.mk (Kd.R_below HVj.out hba)
          have HOW := Sd.mk (Kd.N_below HO2.out (HY.out.trans (hbb.mono HY.out.size)))
          have HWW := Sd.mk (HW2.out.trans ((HY.out.trans (hbb.mono HY.out.size)).mono HW2.out.size))
          have HXW := Sd.mk (blk_below HX2.out (HY.out.trans (hbb.mono HY.out.size)))
          clear hb8 hba hbb c0 c1 c2 g0 g1 g2
          go_wp2_with ((with_reducible refine gate_builtin (b := .append) (xs := #[.tmp 81, .tmp 85]) rfl ?_); at_builtin; refine Kd.N_append k37 (w0 := w3) w3.heap.size rfl (.tmp 81) (.tmp 85) 33 37 (.agg #[(.slice none 0 0), (.int .i64 0), (.int .i64 0)]) 40 rfl Tryz.underlying33 info37 rfl (by decide) (by omega) u6 (out0 ++ rowJ op x (List.take j q)) (⟨jl, ⟨r1, r2⟩⟩ : Ser) [.slice Aj jl.length cj, .int .i64 r1, .int .i64 r2] (fun _ => True) (fun k => w6.heap.size ≤ k) rfl ?aX ?aP ?aK ?aF ?aO ?aB ?aS ?aL ?_; (case aX => first | rfl | (go_simp; done)); (case aP => exact FK_new (Kd.R_F HVW.out) Hcj.out); (case aK => exact HN6.out); (case aF => exact (fun _ _ => trivial)); (case aO => exact HOW.out); (case aB => exact HWW.out); (case aS => exact HWW.out.size); (case aL => exact HLen.out); intro v7 w9 ho hb9 hg9 hat9; have HO9 := Sd.mk ho; have HW9 := Sd.mk hb9; have HX9 := Sd.mk ((hg9.block _ (Array.getElem?_eq_some_iff.1 HXW.out).1 HN2.out).trans HXW.out); have HN9 := Sd.mk (own_ne hat9 HN2.out (Array.getElem?_eq_some_iff.1 HXW.out).1); clear ho hb9 hg9 hat9)
          go_roundw
          case rel => exact ⟨j + 1, by omega, by go_num, ⟨by rw [HR2.out, ← List.append_assoc]; exact HO9.out⟩, HW9, HX9, HN9⟩
          case measure => simp [intOf]; omega
         | false =>
          have HRt := Sd.mk (HRs.out.trans (by exact List.append_nil _ : (rowJ op x (List.take j q) ++ (if (false || false) = true then [joinS op x y] else [])) = rowJ op x (List.take j q)))
          go_wp2_with fail
          refine (HI1.out _ (Below.refl _ _)).mono ?_
          rintro e w5 ⟨rfl, hb5⟩
          have HB5 := Sd.mk hb5
          have HC5 := Sd.mk (HI2.out w5 hb5)
          replace c0 := pw_cell_below hb5 c0
          replace c1 := pw_cell_below hb5 c1
          replace c2 := pw_cell_below hb5 c2
          replace g0 := pw_cell_below hb5 g0
          replace g1 := pw_cell_below hb5 g1
          replace g2 := pw_cell_below hb5 g2
          clear hb5 HI1 HI2 HRs
          go_wp2_with fail
          refine HC5.out.mono ?_
          rintro e w6 ⟨rfl, hb6⟩
          have hb7 := HY.out.trans ((HB5.out.trans (hb6.mono HB5.out.size)).mono HY.out.size)
          have HO6 := Sd.mk (Kd.N_below HO2.out hb7)
          have HW6 := Sd.mk (HW2.out.trans (hb7.mono HW2.out.size))
          have HX6 := Sd.mk (blk_below HX2.out hb7)
          clear hb6 hb7 HC5 HB5 c0 c1 c2 g0 g1 g2
          go_wp2
          go_roundw
          case rel => exact ⟨j + 1, by omega, by go_num, ⟨by rw [HRt.out]; exact HO6.out⟩, HW6, HX6, HN2⟩
          case measure => simp [intOf]; omega
       ·have m1 : decide ((j : Int) < (q.length : Int)) = false := decide_eq_false (by omega)
        have m2 : decide (j < q.length) = false := decide_eq_false hlj
        have hj' : j = q.length := by omega
        have HE := Sd.mk (show pairsJ op (p.take (i + 1)) q = out0 ++ rowJ op x (q.take j) by rw [HPst.out, hj', List.take_length])
        clear hj' hlj hj
        go_wp2
        go_roundw
        case rel => exact ⟨i + 1, by omega, by go_num, ⟨by rw [HE.out]; exact HO2.out⟩, HW2⟩
        case measure => simp [intOf]; omega
     ·have n1 : decide ((i : Int) < (p.length : Int)) = false := decide_eq_false (by omega)
      have n2 : decide (i < p.length) = false := decide_eq_false hlt
      have hi' : i = p.length := by omega
      have HE := Sd.mk (show pairsJ op (p.take i) q = pairsJ op p q by rw [hi', List.take_length])
      rw [HE.out] at HO
      obtain ⟨A6, c6, rfl, _, hC6⟩ := Kd.N_reads HO.out
      have HS := Sd.mk (ssort_calls A6 c6 (pairsJ op p q) HOK.out wo hC6)
      rcases hsr : vSort (pairsJ op p q) with ⟨sl, se⟩
      rw [hsr] at HS
      have HSR := Sd.mk hsr
      clear hsr
      clear hi' hlt hi hC6 HE HO
      go_wp2_with fail
      refine HS.out.mono ?_
      rintro e w9 ⟨v9, rfl, hv9, hb9⟩
      have hw3 := HB3.out.size
      have HV9 := Sd.mk (Kd.N_lower hv9 (Nat.le_trans hw3 HW.out.size))
      have HB9 := Sd.mk (HB3.out.trans ((HW.out.trans (hb9.mono HW.out.size)).mono hw3))
      clear hv9 hb9 hw3
      go_wp2
      go_ret2
      exact ⟨v9, by rw [HSR.out]; rfl, by rw [HSR.out]; exact HV9.out, HB9.out⟩
   ·rw [if_neg hk]
    rw [decide_eq_false hk] at HK
    clear hk HMa HMb
    go_enter Tryz.func19, Tryz.ntmps19
    go_wp2_with fail
    refine HSa.out.mono ?_
    rintro e w1 ⟨va, rfl, hva, hb1⟩
    have HB1 := Sd.mk hb1
    have HSb1 := Sd.mk (HSb.out w1 hb1)
    clear hva hb1 HSb HSa
    go_wp2_with fail
    refine HSb1.out.mono ?_
    rintro e w2 ⟨vb, rfl, hvb, hb2⟩
    have HB2 := Sd.mk (HB1.out.trans (hb2.mono HB1.out.size))
    clear hvb hb2 HB1 HSb1
    go_wp2_with fail
    refine (HK.out w2).mono ?_
    rintro e w3 ⟨rfl, hb3⟩
    have HB3 := Sd.mk (HB2.out.trans (hb3.mono HB2.out.size))
    clear hb3
    go_wp2
    go_ret2
    exact ⟨.slice none 0 0, rfl, Kd.N_nil _ _ _ _ _, HB3.out⟩
  ·rw [if_neg h2]
   have n0 : (e2 == 0) = false := by simpa using h2
   have n1 : (e2 != 0) = true := by simpa using h2
   clear h2 HMa HMb HK
   go_enter Tryz.func19, Tryz.ntmps19
   go_wp2_with fail
   refine HSa.out.mono ?_
   rintro e w1 ⟨va, rfl, hva, hb1⟩
   have HB1 := Sd.mk hb1
   have HSb1 := Sd.mk (HSb.out w1 hb1)
   clear hva hb1 HSb HSa
   go_wp2_with fail
   refine HSb1.out.mono ?_
   rintro e w2 ⟨vb, rfl, hvb, hb2⟩
   have HB2 := Sd.mk (HB1.out.trans (hb2.mono HB1.out.size))
   clear hvb hb2 HB1 HSb1
   go_wp2
   go_ret2
   exact ⟨.slice none 0 0, rfl, Kd.N_nil _ _ _ _ _, HB2.out⟩
 ·rw [if_neg h1]
  have n0 : (e1 == 0) = false := by simpa using h1
  have n1 : (e1 != 0) = true := by simpa using h1
  clear h1 HMa HMb HK HSb
  go_enter Tryz.func19, Tryz.ntmps19
  go_wp2_with fail
  refine HSa.out.mono ?_
  rintro e w1 ⟨va, rfl, hva, hb1⟩
  have HB1 := Sd.mk hb1
  clear hva hb1 HSa
  go_wp2
  go_ret2
  exact ⟨.slice none 0 0, rfl, Kd.N_nil _ _ _ _ _, HB1.out⟩
attribute [local go_sem] max2_int min2_int max_two min_two max_three min_three max_four min_four   -- for this text's walks alone
mutual
def r8_one.j0 : Nat → ByteArray → Int → Int → Option (Int × Int × Bool)
 | 0, _, _, _ => none
 | k + 1, x0, x243000, x243001 => if x243000 = 2 then (some (x243000, x243001, true)) else (if x0.toList = ([33] : List UInt8) then ((r8_True.f x243000 x243001).bind fun t255 => ((r8_Truth.f (!t255)).bind fun bt256 => (some (bt256.1, bt256.2, true)))) else (if x243000 = 3 then (some (x243000, x243001, true)) else (if x0.toList = ([45] : List UInt8) then (r8_one.j1 k x0 true x243000 x243001) else (if x0.toList = ([97, 98, 115] : List UInt8) then ((r8_sign.f k x243000 x243001).bind fun t258 => (r8_one.j1 k x0 (decide (t258 < 0)) x243000 x243001)) else (r8_one.j1 k x0 false x243000 x243001)))))
def r8_one.j1 : Nat → ByteArray → Bool → Int → Int → Option (Int × Int × Bool)
 | 0, _, _, _, _ => none
 | k + 1, x0, x58, x243000, x243001 => if x58 = true then ((r8_turned.f x243000 x243001).bind fun bt259 => (some (bt259.1, bt259.2, true))) else (if x0.toList = ([102, 108, 111, 111, 114] : List UInt8) then ((r8_num.f x243000 x243001).bind fun t261 => (r8_one.j2 k t261 x243000 x243001)) else (r8_one.j2 k false x243000 x243001))
def r8_one.j2 : Nat → Bool → Int → Int → Option (Int × Int × Bool)
 | 0, _, _, _ => none
 | k + 1, x72, x243000, x243001 => if x72 = true then (if (Int.tmod x243001 1000) < 0 then ((r8_Num.f (wrap64 (x243001 - (wrap64 ((Int.tmod x243001 1000) + 1000))))).bind fun bt262 => (some (bt262.1, bt262.2, true))) else ((r8_Num.f (wrap64 (x243001 - (Int.tmod x243001 1000)))).bind fun bt264 => (some (bt264.1, bt264.2, true)))) else (some (x243000, x243001, true))
end
def r8_one.f (k : Nat) (a0 : ByteArray) (a1_0 : Int) (a1_1 : Int) : Option (Int × Int × Bool) := if a0.toList = ([105, 115, 95, 110, 117, 108, 108] : List UInt8) then ((r8_Truth.f (a1_0 == 2)).bind fun bt244 => (some (bt244.1, bt244.2, true))) else (if a0.toList = ([105, 115, 95, 110, 97, 110] : List UInt8) then ((r8_Truth.f (a1_0 == 3)).bind fun bt246 => (some (bt246.1, bt246.2, true))) else (if a0.toList = ([105, 115, 95, 105, 110, 102] : List UInt8) then (if a1_0 = 4 then ((r8_Truth.f true).bind fun bt248 => (some (bt248.1, bt248.2, true))) else ((r8_Truth.f (a1_0 == 5)).bind fun bt250 => (some (bt250.1, bt250.2, true)))) else (if a0.toList = ([105, 115, 95, 110, 117, 109, 98, 101, 114] : List UInt8) then ((r8_num.f a1_0 a1_1).bind fun t252 => ((r8_Truth.f t252).bind fun bt253 => (some (bt253.1, bt253.2, true)))) else (if a0.toList = ([45] : List UInt8) then (r8_one.j0 k a0 a1_0 a1_1) else (if a0.toList = ([97, 98, 115] : List UInt8) then (r8_one.j0 k a0 a1_0 a1_1) else (if a0.toList = ([102, 108, 111, 111, 114] : List UInt8) then (r8_one.j0 k a0 a1_0 a1_1) else (if a0.toList = ([33] : List UInt8) then (r8_one.j0 k a0 a1_0 a1_1) else (some (0, 0, false)))))))))
theorem r8_one.calls (k : Nat) (a0 : ByteArray) (a1_0 : Int) (a1_1 : Int) (r1 : Int) (r2 : Int) (r3 : Bool) (w : World) (h : r8_one.f k a0 a1_0 a1_1 = some (r1, r2, r3)) :
  Calls Tryz.prog 60 #[.string a0, .agg #[.int .i64 a1_0, .int .i64 a1_1]] w fun e w' => e = .returned (.tuple #[.agg #[.int .i64 r1, .int .i64 r2], .bool r3]) ∧ Below w.heap.size w w' := by
 have hu25 := Tryz.underlying25
 have HB := zsB w
 have H : (if a0.toList = ([105, 115, 95, 110, 117, 108, 108] : List UInt8) then ((r8_Truth.f (a1_0 == 2)).bind fun bt244 => (some (bt244.1, bt244.2, true))) else (if a0.toList = ([105, 115, 95, 110, 97, 110] : List UInt8) then ((r8_Truth.f (a1_0 == 3)).bind fun bt246 => (some (bt246.1, bt246.2, true))) else (if a0.toList = ([105, 115, 95, 105, 110, 102] : List UInt8) then (if a1_0 = 4 then ((r8_Truth.f true).bind fun bt248 => (some (bt248.1, bt248.2, true))) else ((r8_Truth.f (a1_0 == 5)).bind fun bt250 => (some (bt250.1, bt250.2, true)))) else (if a0.toList = ([105, 115, 95, 110, 117, 109, 98, 101, 114] : List UInt8) then ((r8_num.f a1_0 a1_1).bind fun t252 => ((r8_Truth.f t252).bind fun bt253 => (some (bt253.1, bt253.2, true)))) else (if a0.toList = ([45] : List UInt8) then (r8_one.j0 k a0 a1_0 a1_1) else (if a0.toList = ([97, 98, 115] : List UInt8) then (r8_one.j0 k a0 a1_0 a1_1) else (if a0.toList = ([102, 108, 111, 111, 114] : List UInt8) then (r8_one.j0 k a0 a1_0 a1_1) else (if a0.toList = ([33] : List UInt8) then (r8_one.j0 k a0 a1_0 a1_1) else (some (0, 0, false)))))))))) = some (r1, r2, r3) := h
 clear h
 have HC3 := Sd.mk H
 clear H
 go_enter Tryz.func60, Tryz.ntmps60
 go_upto_block 0 with (first | ((with_reducible refine gate_dst (N := 3) rfl ?_); refine bxe (N := 3) (cs := #[.int .i64 a1_0, .int .i64 a1_1]) (t := 25) ?_; intro gb242 hg w4 hbox hb; have BK242 := Sd.mk hbox; have GW242 := bge w hg; replace HB := bsq w hb; clear hb hbox hg) | ((with_reducible refine gate_dst (N := 4) rfl ?_); refine bxe (N := 4) (cs := #[.int .i64 0, .int .i64 0]) (t := 25) ?_; intro gb243 hg w5 hbox hb; have BK243 := Sd.mk hbox; have GW243 := bge w hg; have NB242_243 := bnl BK242 hg; have NB243_242 := bng BK242 hg; replace BK242 := bkb BK242 hb; replace HB := bsq w hb; clear hb hbox hg))
 (try simp only [Act.put, List.setIfInBounds_toArray, List.set_cons_zero, List.set_cons_succ])
 go_cut [] (fun wc => ∃ (kq : Nat) (x244000_2 : Int) (x244001_2 : Int), Sd (r8_one.j0 kq a0 a1_0 a1_1 = some (r1, r2, r3)) ∧ Sd (kq ≤ k) ∧ Sd (wc.heap[gb242]? = some (.cells #[.int .i64 a1_0, .int .i64 a1_1] 25 (0, 0))) ∧ Sd (wc.heap[gb243]? = some (.cells #[.int .i64 x244000_2, .int .i64 x244001_2] 25 (0, 0))) ∧ Sd (Below w.heap.size w wc))
 case first =>
  have H := HC3.out
  clear HC3
  by_cases c6 : a0.toList = ([105, 115, 95, 110, 117, 108, 108] : List UInt8)
  ·rw [if_pos c6] at H
   have c6b0 : (a0.toList == ([105, 115, 95, 110, 117, 108, 108] : List UInt8)) = true := beq_iff_eq.mpr c6
   have c6b1 : (a0.toList != ([105, 115, 95, 110, 117, 108, 108] : List UInt8)) = false := bne_eq_false_iff_eq.mpr c6
   clear c6
   (first | rw [c6b0] | (simp only [i64_w, i32_w]; rw [c6b0]) | skip)
   obtain ⟨⟨t244, t245⟩, A7, H⟩ := bnd H
   replace H : (some (t244, t245, true)) = some (r1, r2, r3) := H
   obtain ⟨rfl, rfl, rfl⟩ := zs3 H
   have := NB242_243.out
   have := NB243_242.out
   obtain ⟨_, _, _, _⟩ := bz BK242
   go_wp2_with (first | ((with_reducible refine gate_callee (f := 95) rfl ?_); refine goesL_ (some 14) rfl rfl Tryz.func95 (by kernel_rfl) rfl #[.bool (a1_0 == 2)] rfl ma ?_; (with_reducible refine (r8_Truth.calls (a1_0 == 2) t244 t245 _ A7.out).mono ?_); rintro e w10 ⟨rfl, hb⟩; refine ⟨_, rfl, ?_⟩; replace BK242 := bkb BK242 hb; replace BK243 := bkb BK243 hb; replace HB := bsq w hb; (try clear hb); have hcz11_0 := bz0 BK243; have hcz11_1 := bz1 BK243; have hfz11_0 := blk_frozen BK243.out 0; have hfz11_1 := blk_frozen BK243.out 1))
   refine bodyPost_ret (results_ct rfl _ _ gb243 25 #[.int .i64 t244, .int .i64 t245] (0, 0) _ rfl (by (repeat refine dw ?_); refine blk_put (cs := #[.int .i64 t244, .int .i64 0]) ?_ 1 _ rfl; (repeat refine dw ?_); refine blk_put (cs := #[.int .i64 0, .int .i64 0]) ?_ 0 _ rfl; (repeat refine dw ?_); exact BK243.out) Tryz.underlying25 rfl (by kernel_rfl)) rfl ?_
   exact ⟨fe, bbl⟩
  ·rw [if_neg c6] at H
   have c6b0 : (a0.toList == ([105, 115, 95, 110, 117, 108, 108] : List UInt8)) = false := beq_eq_false_iff_ne.mpr c6
   have c6b1 : (a0.toList != ([105, 115, 95, 110, 117, 108, 108] : List UInt8)) = true := bne_iff_ne.mpr c6
   (first | rw [c6b0] | (simp only [i64_w, i32_w]; rw [c6b0]) | skip)
   by_cases c12 : a0.toList = ([105, 115, 95, 110, 97, 110] : List UInt8)
   ·rw [if_pos c12] at H
    have c12b0 : (a0.toList == ([105, 115, 95, 110, 97, 110] : List UInt8)) = true := beq_iff_eq.mpr c12
    have c12b1 : (a0.toList != ([105, 115, 95, 110, 97, 110] : List UInt8)) = false := bne_eq_false_iff_eq.mpr c12
    clear c12
    obtain ⟨⟨t246, t247⟩, A13, H⟩ := bnd H
    replace H : (some (t246, t247, true)) = some (r1, r2, r3) := H
    obtain ⟨rfl, rfl, rfl⟩ := zs3 H
    have := NB242_243.out
    have := NB243_242.out
    obtain ⟨_, _, _, _⟩ := bz BK242
    go_wp2_with (first | ((with_reducible refine gate_callee (f := 95) rfl ?_); refine goesL_ (some 20) rfl rfl Tryz.func95 (by kernel_rfl) rfl #[.bool (a1_0 == 3)] rfl ma ?_; (with_reducible refine (r8_Truth.calls (a1_0 == 3) t246 t247 _ A13.out).mono ?_); rintro e w16 ⟨rfl, hb⟩; refine ⟨_, rfl, ?_⟩; replace BK242 := bkb BK242 hb; replace BK243 := bkb BK243 hb; replace HB := bsq w hb; (try clear hb); have hcz17_0 := bz0 BK243; have hcz17_1 := bz1 BK243; have hfz17_0 := blk_frozen BK243.out 0; have hfz17_1 := blk_frozen BK243.out 1))
    refine bodyPost_ret (results_ct rfl _ _ gb243 25 #[.int .i64 t246, .int .i64 t247] (0, 0) _ rfl (by (repeat refine dw ?_); refine blk_put (cs := #[.int .i64 t246, .int .i64 0]) ?_ 1 _ rfl; (repeat refine dw ?_); refine blk_put (cs := #[.int .i64 0, .int .i64 0]) ?_ 0 _ rfl; (repeat refine dw ?_); exact BK243.out) Tryz.underlying25 rfl (by kernel_rfl)) rfl ?_
    exact ⟨fe, bbl⟩
   ·rw [if_neg c12] at H
    have c12b0 : (a0.toList == ([105, 115, 95, 110, 97, 110] : List UInt8)) = false := beq_eq_false_iff_ne.mpr c12
    have c12b1 : (a0.toList != ([105, 115, 95, 110, 97, 110] : List UInt8)) = true := bne_iff_ne.mpr c12
    by_cases c18 : a0.toList = ([105, 115, 95, 105, 110, 102] : List UInt8)
    ·rw [if_pos c18] at H
     have c18b0 : (a0.toList == ([105, 115, 95, 105, 110, 102] : List UInt8)) = true := beq_iff_eq.mpr c18
     have c18b1 : (a0.toList != ([105, 115, 95, 105, 110, 102] : List UInt8)) = false := bne_eq_false_iff_eq.mpr c18
     clear c18
     by_cases c19 : a1_0 = 4
     ·rw [if_pos c19] at H
      have c19b0 := beq_iff_eq.mpr c19
      have c19b1 := bne_eq_false_iff_eq.mpr c19
      clear c19
      obtain ⟨⟨t248, t249⟩, A20, H⟩ := bnd H
      replace H : (some (t248, t249, true)) = some (r1, r2, r3) := H
      obtain ⟨rfl, rfl, rfl⟩ := zs3 H
      have := NB242_243.out
      have := NB243_242.out
      obtain ⟨_, _, _, _⟩ := bz BK242
      go_wp2_with (first | ((with_reducible refine gate_callee (f := 95) rfl ?_); refine goesL_ (some 31) rfl rfl Tryz.func95 (by kernel_rfl) rfl #[.bool true] rfl ma ?_; (with_reducible refine (r8_Truth.calls true t248 t249 _ A20.out).mono ?_); rintro e w23 ⟨rfl, hb⟩; refine ⟨_, rfl, ?_⟩; replace BK242 := bkb BK242 hb; replace BK243 := bkb BK243 hb; replace HB := bsq w hb; (try clear hb); have hcz24_0 := bz0 BK243; have hcz24_1 := bz1 BK243; have hfz24_0 := blk_frozen BK243.out 0; have hfz24_1 := blk_frozen BK243.out 1))
      refine bodyPost_ret (results_ct rfl _ _ gb243 25 #[.int .i64 t248, .int .i64 t249] (0, 0) _ rfl (by (repeat refine dw ?_); refine blk_put (cs := #[.int .i64 t248, .int .i64 0]) ?_ 1 _ rfl; (repeat refine dw ?_); refine blk_put (cs := #[.int .i64 0, .int .i64 0]) ?_ 0 _ rfl; (repeat refine dw ?_); exact BK243.out) Tryz.underlying25 rfl (by kernel_rfl)) rfl ?_
      exact ⟨fe, bbl⟩
     ·rw [if_neg c19] at H
      have c19b0 := beq_eq_false_iff_ne.mpr c19
      have c19b1 := bne_iff_ne.mpr c19
      obtain ⟨⟨t250, t251⟩, A25, H⟩ := bnd H
      replace H : (some (t250, t251, true)) = some (r1, r2, r3) := H
      obtain ⟨rfl, rfl, rfl⟩ := zs3 H
      have := NB242_243.out
      have := NB243_242.out
      obtain ⟨_, _, _, _⟩ := bz BK242
      go_wp2_with (first | ((with_reducible refine gate_callee (f := 95) rfl ?_); refine goesL_ (some 31) rfl rfl Tryz.func95 (by kernel_rfl) rfl #[.bool (a1_0 == 5)] rfl ma ?_; (with_reducible refine (r8_Truth.calls (a1_0 == 5) t250 t251 _ A25.out).mono ?_); rintro e w28 ⟨rfl, hb⟩; refine ⟨_, rfl, ?_⟩; replace BK242 := bkb BK242 hb; replace BK243 := bkb BK243 hb; replace HB := bsq w hb; (try clear hb); have hcz29_0 := bz0 BK243; have hcz29_1 := bz1 BK243; have hfz29_0 := blk_frozen BK243.out 0; have hfz29_1 := blk_frozen BK243.out 1))
      refine bodyPost_ret (results_ct rfl _ _ gb243 25 #[.int .i64 t250, .int .i64 t251] (0, 0) _ rfl (by (repeat refine dw ?_); refine blk_put (cs := #[.int .i64 t250, .int .i64 0]) ?_ 1 _ rfl; (repeat refine dw ?_); refine blk_put (cs := #[.int .i64 0, .int .i64 0]) ?_ 0 _ rfl; (repeat refine dw ?_); exact BK243.out) Tryz.underlying25 rfl (by kernel_rfl)) rfl ?_
      exact ⟨fe, bbl⟩
    ·rw [if_neg c18] at H
     have c18b0 : (a0.toList == ([105, 115, 95, 105, 110, 102] : List UInt8)) = false := beq_eq_false_iff_ne.mpr c18
     have c18b1 : (a0.toList != ([105, 115, 95, 105, 110, 102] : List UInt8)) = true := bne_iff_ne.mpr c18
     by_cases c30 : a0.toList = ([105, 115, 95, 110, 117, 109, 98, 101, 114] : List UInt8)
     ·rw [if_pos c30] at H
      have c30b0 : (a0.toList == ([105, 115, 95, 110, 117, 109, 98, 101, 114] : List UInt8)) = true := beq_iff_eq.mpr c30
      have c30b1 : (a0.toList != ([105, 115, 95, 110, 117, 109, 98, 101, 114] : List UInt8)) = false := bne_eq_false_iff_eq.mpr c30
      clear c30
      obtain ⟨t252, A31, H⟩ := bnd H
      obtain ⟨⟨t253, t254⟩, A32, H⟩ := bnd H
      replace H : (some (t253, t254, true)) = some (r1, r2, r3) := H
      obtain ⟨rfl, rfl, rfl⟩ := zs3 H
      have := NB242_243.out
      have := NB243_242.out
      obtain ⟨_, _, _, _⟩ := bz BK242
      go_wp2_with (first | ((with_reducible refine gate_callee (f := 84) rfl ?_); refine goesL_ (some 35) rfl rfl Tryz.func84 (by kernel_rfl) rfl #[.agg #[.int .i64 a1_0, .int .i64 a1_1]] rfl ma ?_; (with_reducible refine (r8_num.calls a1_0 a1_1 t252 _ A31.out).mono ?_); rintro e w35 ⟨rfl, hb⟩; refine ⟨_, rfl, ?_⟩; replace BK242 := bkb BK242 hb; replace BK243 := bkb BK243 hb; replace HB := bsq w hb; (try clear hb)) | ((with_reducible refine gate_callee (f := 95) rfl ?_); refine goesL_ (some 36) rfl rfl Tryz.func95 (by kernel_rfl) rfl #[.bool t252] rfl ma ?_; (with_reducible refine (r8_Truth.calls t252 t253 t254 _ A32.out).mono ?_); rintro e w36 ⟨rfl, hb⟩; refine ⟨_, rfl, ?_⟩; replace BK242 := bkb BK242 hb; replace BK243 := bkb BK243 hb; replace HB := bsq w hb; (try clear hb); have hcz37_0 := bz0 BK243; have hcz37_1 := bz1 BK243; have hfz37_0 := blk_frozen BK243.out 0; have hfz37_1 := blk_frozen BK243.out 1))
      refine bodyPost_ret (results_ct rfl _ _ gb243 25 #[.int .i64 t253, .int .i64 t254] (0, 0) _ rfl (by (repeat refine dw ?_); refine blk_put (cs := #[.int .i64 t253, .int .i64 0]) ?_ 1 _ rfl; (repeat refine dw ?_); refine blk_put (cs := #[.int .i64 0, .int .i64 0]) ?_ 0 _ rfl; (repeat refine dw ?_); exact BK243.out) Tryz.underlying25 rfl (by kernel_rfl)) rfl ?_
      exact ⟨fe, bbl⟩
     ·rw [if_neg c30] at H
      have c30b0 : (a0.toList == ([105, 115, 95, 110, 117, 109, 98, 101, 114] : List UInt8)) = false := beq_eq_false_iff_ne.mpr c30
      have c30b1 : (a0.toList != ([105, 115, 95, 110, 117, 109, 98, 101, 114] : List UInt8)) = true := bne_iff_ne.mpr c30
      by_cases c38 : a0.toList = ([45] : List UInt8)
      ·rw [if_pos c38] at H
       have c38b0 : (a0.toList == ([45] : List UInt8)) = true := beq_iff_eq.mpr c38
       have c38b1 : (a0.toList != ([45] : List UInt8)) = false := bne_eq_false_iff_eq.mpr c38
       clear c38
       have H' := Sd.mk H
       clear H
       go_wp2
       go_meet
       case rel => exact ⟨_, (0), (0), H', ⟨by first | omega | exact Nat.le_refl _⟩, fwK BK242, fwK BK243, ⟨bbl⟩⟩
      ·rw [if_neg c38] at H
       have c38b0 : (a0.toList == ([45] : List UInt8)) = false := beq_eq_false_iff_ne.mpr c38
       have c38b1 : (a0.toList != ([45] : List UInt8)) = true := bne_iff_ne.mpr c38
       by_cases c39 : a0.toList = ([97, 98, 115] : List UInt8)
       ·rw [if_pos c39] at H
        have c39b0 : (a0.toList == ([97, 98, 115] : List UInt8)) = true := beq_iff_eq.mpr c39
        have c39b1 : (a0.toList != ([97, 98, 115] : List UInt8)) = false := bne_eq_false_iff_eq.mpr c39
        clear c39
        have H' := Sd.mk H
        clear H
        go_wp2
        go_meet
        case rel => exact ⟨_, (0), (0), H', ⟨by first | omega | exact Nat.le_refl _⟩, fwK BK242, fwK BK243, ⟨bbl⟩⟩
       ·rw [if_neg c39] at H
        have c39b0 : (a0.toList == ([97, 98, 115] : List UInt8)) = false := beq_eq_false_iff_ne.mpr c39
        have c39b1 : (a0.toList != ([97, 98, 115] : List UInt8)) = true := bne_iff_ne.mpr c39
        by_cases c40 : a0.toList = ([102, 108, 111, 111, 114] : List UInt8)
        ·rw [if_pos c40] at H
         have c40b0 : (a0.toList == ([102, 108, 111, 111, 114] : List UInt8)) = true := beq_iff_eq.mpr c40
         have c40b1 : (a0.toList != ([102, 108, 111, 111, 114] : List UInt8)) = false := bne_eq_false_iff_eq.mpr c40
         clear c40
         have H' := Sd.mk H
         clear H
         go_wp2
         go_meet
         case rel => exact ⟨_, (0), (0), H', ⟨by first | omega | exact Nat.le_refl _⟩, fwK BK242, fwK BK243, ⟨bbl⟩⟩
        ·rw [if_neg c40] at H
         have c40b0 : (a0.toList == ([102, 108, 111, 111, 114] : List UInt8)) = false := beq_eq_false_iff_ne.mpr c40
         have c40b1 : (a0.toList != ([102, 108, 111, 111, 114] : List UInt8)) = true := bne_iff_ne.mpr c40
         by_cases c41 : a0.toList = ([33] : List UInt8)
         ·rw [if_pos c41] at H
          have c41b0 : (a0.toList == ([33] : List UInt8)) = true := beq_iff_eq.mpr c41
          have c41b1 : (a0.toList != ([33] : List UInt8)) = false := bne_eq_false_iff_eq.mpr c41
          clear c41
          have H' := Sd.mk H
          clear H
          go_wp2
          go_meet
          case rel => exact ⟨_, (0), (0), H', ⟨by first | omega | exact Nat.le_refl _⟩, fwK BK242, fwK BK243, ⟨bbl⟩⟩
         ·rw [if_neg c41] at H
          have c41b0 : (a0.toList == ([33] : List UInt8)) = false := beq_eq_false_iff_ne.mpr c41
          have c41b1 : (a0.toList != ([33] : List UInt8)) = true := bne_iff_ne.mpr c41
          obtain ⟨rfl, rfl, rfl⟩ := zs3 H
          have := NB243_242.out
          have := NB242_243.out
          obtain ⟨_, _, _, _⟩ := bz BK243
          go_wp2
          refine bodyPost_ret (results_ct rfl _ _ gb243 25 #[.int .i64 0, .int .i64 0] (0, 0) _ rfl (by (repeat refine dw ?_); refine blk_put (cs := #[.int .i64 0, .int .i64 0]) ?_ 1 _ rfl; (repeat refine dw ?_); refine blk_put (cs := #[.int .i64 0, .int .i64 0]) ?_ 0 _ rfl; (repeat refine dw ?_); exact BK243.out) Tryz.underlying25 rfl (by kernel_rfl)) rfl ?_
          exact ⟨fe, bbl⟩
 case rest =>
  clear HC3
  obtain ⟨kq, x244000_2, x244001_2, HA, HJ2, BK242, BK243, HB⟩ := hcut
  cases kq with
  | zero => exact absurd HA.out (by simp [r8_one.j0])
  | succ kj2 =>
   have H := HA.out
   clear HA
   simp only [r8_one.j0] at H
   by_cases c44 : a1_0 = 2
   ·rw [if_pos c44] at H
    have c44b0 := beq_iff_eq.mpr c44
    have c44b1 := bne_eq_false_iff_eq.mpr c44
    clear c44
    obtain ⟨rfl, rfl, rfl⟩ := zs3 H
    have := NB242_243.out
    have := NB243_242.out
    obtain ⟨_, _, _, _⟩ := bz BK242
    obtain ⟨_, _, _, _⟩ := bz BK243
    go_wp2
    refine bodyPost_ret (results_ct rfl _ _ gb243 25 #[.int .i64 a1_0, .int .i64 a1_1] (0, 0) _ rfl (by (repeat refine dw ?_); refine blk_put (cs := #[.int .i64 a1_0, .int .i64 x244001_2]) ?_ 1 _ rfl; (repeat refine dw ?_); refine blk_put (cs := #[.int .i64 x244000_2, .int .i64 x244001_2]) ?_ 0 _ rfl; (repeat refine dw ?_); exact BK243.out) Tryz.underlying25 rfl (by kernel_rfl)) rfl ?_
    exact ⟨fe, bbl⟩
   ·rw [if_neg c44] at H
    have c44b0 := beq_eq_false_iff_ne.mpr c44
    have c44b1 := bne_iff_ne.mpr c44
    by_cases c48 : a0.toList = ([33] : List UInt8)
    ·rw [if_pos c48] at H
     have c48b0 : (a0.toList == ([33] : List UInt8)) = true := beq_iff_eq.mpr c48
     have c48b1 : (a0.toList != ([33] : List UInt8)) = false := bne_eq_false_iff_eq.mpr c48
     clear c48
     obtain ⟨t255, A49, H⟩ := bnd H
     obtain ⟨⟨t256, t257⟩, A50, H⟩ := bnd H
     replace H : (some (t256, t257, true)) = some (r1, r2, r3) := H
     obtain ⟨rfl, rfl, rfl⟩ := zs3 H
     have := NB242_243.out
     have := NB243_242.out
     obtain ⟨_, _, _, _⟩ := bz BK242
     go_wp2_with (first | ((with_reducible refine gate_callee (f := 65) rfl ?_); refine goesL_ (some 50) rfl rfl Tryz.func65 (by kernel_rfl) rfl #[.agg #[.int .i64 a1_0, .int .i64 a1_1]] rfl ma ?_; (with_reducible refine (r8_True.calls a1_0 a1_1 t255 _ A49.out).mono ?_); rintro e w53 ⟨rfl, hb⟩; refine ⟨_, rfl, ?_⟩; replace BK242 := bkb BK242 hb; replace BK243 := bkb BK243 hb; replace HB := bsq w hb; (try clear hb)) | ((with_reducible refine gate_callee (f := 95) rfl ?_); refine goesL_ (some 52) rfl rfl Tryz.func95 (by kernel_rfl) rfl #[.bool (!t255)] rfl ma ?_; (with_reducible refine (r8_Truth.calls (!t255) t256 t257 _ A50.out).mono ?_); rintro e w54 ⟨rfl, hb⟩; refine ⟨_, rfl, ?_⟩; replace BK242 := bkb BK242 hb; replace BK243 := bkb BK243 hb; replace HB := bsq w hb; (try clear hb); have hcz55_0 := bz0 BK243; have hcz55_1 := bz1 BK243; have hfz55_0 := blk_frozen BK243.out 0; have hfz55_1 := blk_frozen BK243.out 1))
     refine bodyPost_ret (results_ct rfl _ _ gb243 25 #[.int .i64 t256, .int .i64 t257] (0, 0) _ rfl (by (repeat refine dw ?_); refine blk_put (cs := #[.int .i64 t256, .int .i64 x244001_2]) ?_ 1 _ rfl; (repeat refine dw ?_); refine blk_put (cs := #[.int .i64 x244000_2, .int .i64 x244001_2]) ?_ 0 _ rfl; (repeat refine dw ?_); exact BK243.out) Tryz.underlying25 rfl (by kernel_rfl)) rfl ?_
     exact ⟨fe, bbl⟩
    ·rw [if_neg c48] at H
     have c48b0 : (a0.toList == ([33] : List UInt8)) = false := beq_eq_false_iff_ne.mpr c48
     have c48b1 : (a0.toList != ([33] : List UInt8)) = true := bne_iff_ne.mpr c48
     by_cases c56 : a1_0 = 3
     ·rw [if_pos c56] at H
      have c56b0 := beq_iff_eq.mpr c56
      have c56b1 := bne_eq_false_iff_eq.mpr c56
      clear c56
      obtain ⟨rfl, rfl, rfl⟩ := zs3 H
      have := NB242_243.out
      have := NB243_242.out
      obtain ⟨_, _, _, _⟩ := bz BK242
      obtain ⟨_, _, _, _⟩ := bz BK243
      go_wp2
      refine bodyPost_ret (results_ct rfl _ _ gb243 25 #[.int .i64 a1_0, .int .i64 a1_1] (0, 0) _ rfl (by (repeat refine dw ?_); refine blk_put (cs := #[.int .i64 a1_0, .int .i64 x244001_2]) ?_ 1 _ rfl; (repeat refine dw ?_); refine blk_put (cs := #[.int .i64 x244000_2, .int .i64 x244001_2]) ?_ 0 _ rfl; (repeat refine dw ?_); exact BK243.out) Tryz.underlying25 rfl (by kernel_rfl)) rfl ?_
      exact ⟨fe, bbl⟩
     ·rw [if_neg c56] at H
      have c56b0 := beq_eq_false_iff_ne.mpr c56
      have c56b1 := bne_iff_ne.mpr c56
      have HC60 := Sd.mk H
      clear H
      have := NB242_243.out
      have := NB243_242.out
      obtain ⟨_, _, _, _⟩ := bz BK242
      go_upto_region 21 with (fail)
      go_cut [58] (fun v58 wc => ∃ (kq : Nat) (x58_59 : Bool), v58 = .bool x58_59 ∧ Sd (r8_one.j1 kq a0 x58_59 a1_0 a1_1 = some (r1, r2, r3)) ∧ Sd (kq ≤ kj2) ∧ Sd (wc.heap[gb242]? = some (.cells #[.int .i64 a1_0, .int .i64 a1_1] 25 (0, 0))) ∧ Sd (wc.heap[gb243]? = some (.cells #[.int .i64 x244000_2, .int .i64 x244001_2] 25 (0, 0))) ∧ Sd (Below w.heap.size w wc))
      case first =>
       have H := HC60.out
       clear HC60
       by_cases c63 : a0.toList = ([45] : List UInt8)
       ·rw [if_pos c63] at H
        have c63b0 : (a0.toList == ([45] : List UInt8)) = true := beq_iff_eq.mpr c63
        have c63b1 : (a0.toList != ([45] : List UInt8)) = false := bne_eq_false_iff_eq.mpr c63
        clear c63
        (first | rw [c63b0] | (simp only [i64_w, i32_w]; rw [c63b0]) | skip)
        have H' := Sd.mk H
        clear H
        go_wp2
        go_meet
        case rel => exact ⟨_, (true), ae, H', ⟨by have := HJ2.out; first | omega | exact Nat.le_refl _⟩, fwK BK242, fwK BK243, ⟨bbl⟩⟩
       ·rw [if_neg c63] at H
        have c63b0 : (a0.toList == ([45] : List UInt8)) = false := beq_eq_false_iff_ne.mpr c63
        have c63b1 : (a0.toList != ([45] : List UInt8)) = true := bne_iff_ne.mpr c63
        (first | rw [c63b0] | (simp only [i64_w, i32_w]; rw [c63b0]) | skip)
        by_cases c64 : a0.toList = ([97, 98, 115] : List UInt8)
        ·rw [if_pos c64] at H
         have c64b0 : (a0.toList == ([97, 98, 115] : List UInt8)) = true := beq_iff_eq.mpr c64
         have c64b1 : (a0.toList != ([97, 98, 115] : List UInt8)) = false := bne_eq_false_iff_eq.mpr c64
         clear c64
         obtain ⟨t258, A65, H⟩ := bnd H
         have H' := Sd.mk H
         clear H
         have := NB242_243.out
         have := NB243_242.out
         obtain ⟨_, _, _, _⟩ := bz BK242
         go_wp2_with (first | (go_at_call 96; (with_reducible refine (r8_sign.calls kj2 a1_0 a1_1 t258 _ A65.out).mono ?_); rintro e w68 ⟨rfl, hb⟩; replace BK242 := bkb BK242 hb; replace BK243 := bkb BK243 hb; replace HB := bsq w hb; (try clear hb)))
         go_meet
         case rel => exact ⟨_, (decide (t258 < 0)), ae, H', ⟨by have := HJ2.out; first | omega | exact Nat.le_refl _⟩, fwK BK242, fwK BK243, ⟨bbl⟩⟩
        ·rw [if_neg c64] at H
         have c64b0 : (a0.toList == ([97, 98, 115] : List UInt8)) = false := beq_eq_false_iff_ne.mpr c64
         have c64b1 : (a0.toList != ([97, 98, 115] : List UInt8)) = true := bne_iff_ne.mpr c64
         have H' := Sd.mk H
         clear H
         go_wp2
         go_meet
         case rel => exact ⟨_, (false), ae, H', ⟨by have := HJ2.out; first | omega | exact Nat.le_refl _⟩, fwK BK242, fwK BK243, ⟨bbl⟩⟩
      case rest =>
       clear HC60
       obtain ⟨kq, x58_59, rfl, HA, HJ59, BK242, BK243, HB⟩ := hcut
       cases kq with
       | zero => exact absurd HA.out (by simp [r8_one.j1])
       | succ kj59 =>
        have H := HA.out
        clear HA
        simp only [r8_one.j1] at H
        by_cases c69 : x58_59 = true
        ·subst c69
         replace H := iT H
         obtain ⟨⟨t259, t260⟩, A70, H⟩ := bnd H
         replace H : (some (t259, t260, true)) = some (r1, r2, r3) := H
         obtain ⟨rfl, rfl, rfl⟩ := zs3 H
         have := NB242_243.out
         have := NB243_242.out
         obtain ⟨_, _, _, _⟩ := bz BK242
         go_wp2_with (first | ((with_reducible refine gate_callee (f := 97) rfl ?_); refine goesL_ (some 71) rfl rfl Tryz.func97 (by kernel_rfl) rfl #[.agg #[.int .i64 a1_0, .int .i64 a1_1]] rfl ma ?_; (with_reducible refine (r8_turned.calls a1_0 a1_1 t259 t260 _ A70.out).mono ?_); rintro e w73 ⟨rfl, hb⟩; refine ⟨_, rfl, ?_⟩; replace BK242 := bkb BK242 hb; replace BK243 := bkb BK243 hb; replace HB := bsq w hb; (try clear hb); have hcz74_0 := bz0 BK243; have hcz74_1 := bz1 BK243; have hfz74_0 := blk_frozen BK243.out 0; have hfz74_1 := blk_frozen BK243.out 1))
         refine bodyPost_ret (results_ct rfl _ _ gb243 25 #[.int .i64 t259, .int .i64 t260] (0, 0) _ rfl (by (repeat refine dw ?_); refine blk_put (cs := #[.int .i64 t259, .int .i64 x244001_2]) ?_ 1 _ rfl; (repeat refine dw ?_); refine blk_put (cs := #[.int .i64 x244000_2, .int .i64 x244001_2]) ?_ 0 _ rfl; (repeat refine dw ?_); exact BK243.out) Tryz.underlying25 rfl (by kernel_rfl)) rfl ?_
         exact ⟨fe, bbl⟩
        ·replace c69 := znf c69
         subst c69
         replace H := iF H
         have HC75 := Sd.mk H
         clear H
         go_upto_region 23 with (fail)
         go_cut [72] (fun v72 wc => ∃ (kq : Nat) (x72_74 : Bool), v72 = .bool x72_74 ∧ Sd (r8_one.j2 kq x72_74 a1_0 a1_1 = some (r1, r2, r3)) ∧ Sd (kq ≤ kj59) ∧ Sd (wc.heap[gb242]? = some (.cells #[.int .i64 a1_0, .int .i64 a1_1] 25 (0, 0))) ∧ Sd (wc.heap[gb243]? = some (.cells #[.int .i64 x244000_2, .int .i64 x244001_2] 25 (0, 0))) ∧ Sd (Below w.heap.size w wc))
         case first =>
          have H := HC75.out
          clear HC75
          by_cases c76 : a0.toList = ([102, 108, 111, 111, 114] : List UInt8)
          ·rw [if_pos c76] at H
           have c76b0 : (a0.toList == ([102, 108, 111, 111, 114] : List UInt8)) = true := beq_iff_eq.mpr c76
           have c76b1 : (a0.toList != ([102, 108, 111, 111, 114] : List UInt8)) = false := bne_eq_false_iff_eq.mpr c76
           clear c76
           (first | rw [c76b0] | (simp only [i64_w, i32_w]; rw [c76b0]) | skip)
           obtain ⟨t261, A77, H⟩ := bnd H
           have H' := Sd.mk H
           clear H
           have := NB242_243.out
           have := NB243_242.out
           obtain ⟨_, _, _, _⟩ := bz BK242
           go_wp2_with (first | (go_at_call 84; (with_reducible refine (r8_num.calls a1_0 a1_1 t261 _ A77.out).mono ?_); rintro e w80 ⟨rfl, hb⟩; replace BK242 := bkb BK242 hb; replace BK243 := bkb BK243 hb; replace HB := bsq w hb; (try clear hb)))
           go_meet
           case rel => exact ⟨_, (t261), ae, H', ⟨by have := HJ2.out; have := HJ59.out; first | omega | exact Nat.le_refl _⟩, fwK BK242, fwK BK243, ⟨bbl⟩⟩
          ·rw [if_neg c76] at H
           have c76b0 : (a0.toList == ([102, 108, 111, 111, 114] : List UInt8)) = false := beq_eq_false_iff_ne.mpr c76
           have c76b1 : (a0.toList != ([102, 108, 111, 111, 114] : List UInt8)) = true := bne_iff_ne.mpr c76
           (first | rw [c76b0] | (simp only [i64_w, i32_w]; rw [c76b0]) | skip)
           have H' := Sd.mk H
           clear H
           go_wp2
           go_meet
           case rel => exact ⟨_, (false), ae, H', ⟨by have := HJ2.out; have := HJ59.out; first | omega | exact Nat.le_refl _⟩, fwK BK242, fwK BK243, ⟨bbl⟩⟩
         case rest =>
          clear HC75
          obtain ⟨kq, x72_74, rfl, HA, HJ74, BK242, BK243, HB⟩ := hcut
          cases kq with
          | zero => exact absurd HA.out (by simp [r8_one.j2])
          | succ kj74 =>
           have H := HA.out
           clear HA
           simp only [r8_one.j2] at H
           by_cases c81 : x72_74 = true
           ·subst c81
            replace H := iT H
            by_cases c82 : (Int.tmod a1_1 1000) < 0
            ·rw [if_pos c82] at H
             have c82b0 : decide ((Int.tmod a1_1 1000) < 0) = true := decide_eq_true c82
             clear c82
             obtain ⟨⟨t262, t263⟩, A83, H⟩ := bnd H
             replace H : (some (t262, t263, true)) = some (r1, r2, r3) := H
             obtain ⟨rfl, rfl, rfl⟩ := zs3 H
             have := NB242_243.out
             have := NB243_242.out
             obtain ⟨_, _, _, _⟩ := bz BK242
             go_wp2_with (first | ((with_reducible refine gate_callee (f := 27) rfl ?_); refine goesL_ (some 90) rfl rfl Tryz.func27 (by kernel_rfl) rfl #[.int .i64 (wrap64 (a1_1 - (wrap64 ((Int.tmod a1_1 1000) + 1000))))] rfl ma ?_; (with_reducible refine (r8_Num.calls (wrap64 (a1_1 - (wrap64 ((Int.tmod a1_1 1000) + 1000)))) t262 t263 _ A83.out).mono ?_); rintro e w86 ⟨rfl, hb⟩; refine ⟨_, rfl, ?_⟩; replace BK242 := bkb BK242 hb; replace BK243 := bkb BK243 hb; replace HB := bsq w hb; (try clear hb); have hcz87_0 := bz0 BK243; have hcz87_1 := bz1 BK243; have hfz87_0 := blk_frozen BK243.out 0; have hfz87_1 := blk_frozen BK243.out 1))
             refine bodyPost_ret (results_ct rfl _ _ gb243 25 #[.int .i64 t262, .int .i64 t263] (0, 0) _ rfl (by (repeat refine dw ?_); refine blk_put (cs := #[.int .i64 t262, .int .i64 x244001_2]) ?_ 1 _ rfl; (repeat refine dw ?_); refine blk_put (cs := #[.int .i64 x244000_2, .int .i64 x244001_2]) ?_ 0 _ rfl; (repeat refine dw ?_); exact BK243.out) Tryz.underlying25 rfl (by kernel_rfl)) rfl ?_
             exact ⟨fe, bbl⟩
            ·rw [if_neg c82] at H
             have c82b0 : decide ((Int.tmod a1_1 1000) < 0) = false := decide_eq_false c82
             clear c82
             obtain ⟨⟨t264, t265⟩, A88, H⟩ := bnd H
             replace H : (some (t264, t265, true)) = some (r1, r2, r3) := H
             obtain ⟨rfl, rfl, rfl⟩ := zs3 H
             have := NB242_243.out
             have := NB243_242.out
             obtain ⟨_, _, _, _⟩ := bz BK242
             go_wp2_with (first | ((with_reducible refine gate_callee (f := 27) rfl ?_); refine goesL_ (some 90) rfl rfl Tryz.func27 (by kernel_rfl) rfl #[.int .i64 (wrap64 (a1_1 - (Int.tmod a1_1 1000)))] rfl ma ?_; (with_reducible refine (r8_Num.calls (wrap64 (a1_1 - (Int.tmod a1_1 1000))) t264 t265 _ A88.out).mono ?_); rintro e w91 ⟨rfl, hb⟩; refine ⟨_, rfl, ?_⟩; replace BK242 := bkb BK242 hb; replace BK243 := bkb BK243 hb; replace HB := bsq w hb; (try clear hb); have hcz92_0 := bz0 BK243; have hcz92_1 := bz1 BK243; have hfz92_0 := blk_frozen BK243.out 0; have hfz92_1 := blk_frozen BK243.out 1))
             refine bodyPost_ret (results_ct rfl _ _ gb243 25 #[.int .i64 t264, .int .i64 t265] (0, 0) _ rfl (by (repeat refine dw ?_); refine blk_put (cs := #[.int .i64 t264, .int .i64 x244001_2]) ?_ 1 _ rfl; (repeat refine dw ?_); refine blk_put (cs := #[.int .i64 x244000_2, .int .i64 x244001_2]) ?_ 0 _ rfl; (repeat refine dw ?_); exact BK243.out) Tryz.underlying25 rfl (by kernel_rfl)) rfl ?_
             exact ⟨fe, bbl⟩
           ·replace c81 := znf c81
            subst c81
            replace H := iF H
            obtain ⟨rfl, rfl, rfl⟩ := zs3 H
            have := NB242_243.out
            have := NB243_242.out
            obtain ⟨_, _, _, _⟩ := bz BK242
            obtain ⟨_, _, _, _⟩ := bz BK243
            go_wp2
            refine bodyPost_ret (results_ct rfl _ _ gb243 25 #[.int .i64 a1_0, .int .i64 a1_1] (0, 0) _ rfl (by (repeat refine dw ?_); refine blk_put (cs := #[.int .i64 a1_0, .int .i64 x244001_2]) ?_ 1 _ rfl; (repeat refine dw ?_); refine blk_put (cs := #[.int .i64 x244000_2, .int .i64 x244001_2]) ?_ 0 _ rfl; (repeat refine dw ?_); exact BK243.out) Tryz.underlying25 rfl (by kernel_rfl)) rfl ?_
            exact ⟨fe, bbl⟩
def r8_Null.f  : Option (Int × Int) := some (2, 0)
theorem r8_Null.calls  (r1 : Int) (r2 : Int) (w : World) (h : r8_Null.f  = some (r1, r2)) :
  Calls Tryz.prog 28 #[] w fun e w' => e = .returned (.agg #[.int .i64 r1, .int .i64 r2]) ∧ Below w.heap.size w w' := by
 have hu25 := Tryz.underlying25
 have HB := zsB w
 have H : (some (2, 0)) = some (r1, r2) := h
 clear h
 obtain ⟨rfl, rfl⟩ := zs2 H
 go_enter Tryz.func28, Tryz.ntmps28
 go_wp2_with (first | ((with_reducible refine gate_dst (N := 0) rfl ?_); refine bxe (N := 0) (cs := #[.int .i64 0, .int .i64 0]) (t := 25) ?_; intro gb266 hg w1 hbox hb; have BK266 := Sd.mk hbox; have GW266 := bge w hg; replace HB := bsq w hb; clear hb hbox hg; have hcz2_0 := bz0 BK266; have hcz2_1 := bz1 BK266; have hfz2_0 := blk_frozen BK266.out 0; have hfz2_1 := blk_frozen BK266.out 1))
 refine bodyPost_ret (results_cell_row rfl _ _ gb266 25 #[.int .i64 2, .int .i64 0] (0, 0) _ rfl (by (repeat refine dw ?_); refine blk_put (cs := #[.int .i64 2, .int .i64 0]) ?_ 1 _ rfl; (repeat refine dw ?_); refine blk_put (cs := #[.int .i64 0, .int .i64 0]) ?_ 0 _ rfl; (repeat refine dw ?_); exact BK266.out) Tryz.underlying25 rfl (by kernel_rfl)) rfl ?_
 exact ⟨fe, bbl⟩
def r8_NaN.f  : Option (Int × Int) := some (3, 0)
theorem r8_NaN.calls  (r1 : Int) (r2 : Int) (w : World) (h : r8_NaN.f  = some (r1, r2)) :
  Calls Tryz.prog 29 #[] w fun e w' => e = .returned (.agg #[.int .i64 r1, .int .i64 r2]) ∧ Below w.heap.size w w' := by
 have hu25 := Tryz.underlying25
 have HB := zsB w
 have H : (some (3, 0)) = some (r1, r2) := h
 clear h
 obtain ⟨rfl, rfl⟩ := zs2 H
 go_enter Tryz.func29, Tryz.ntmps29
 go_wp2_with (first | ((with_reducible refine gate_dst (N := 0) rfl ?_); refine bxe (N := 0) (cs := #[.int .i64 0, .int .i64 0]) (t := 25) ?_; intro gb267 hg w1 hbox hb; have BK267 := Sd.mk hbox; have GW267 := bge w hg; replace HB := bsq w hb; clear hb hbox hg; have hcz2_0 := bz0 BK267; have hcz2_1 := bz1 BK267; have hfz2_0 := blk_frozen BK267.out 0; have hfz2_1 := blk_frozen BK267.out 1))
 refine bodyPost_ret (results_cell_row rfl _ _ gb267 25 #[.int .i64 3, .int .i64 0] (0, 0) _ rfl (by (repeat refine dw ?_); refine blk_put (cs := #[.int .i64 3, .int .i64 0]) ?_ 1 _ rfl; (repeat refine dw ?_); refine blk_put (cs := #[.int .i64 0, .int .i64 0]) ?_ 0 _ rfl; (repeat refine dw ?_); exact BK267.out) Tryz.underlying25 rfl (by kernel_rfl)) rfl ?_
 exact ⟨fe, bbl⟩
/-- Blocks that stand: what each holds, of what type. -/
structure Bk (w : World) (L : List (Nat × Array Value × TypeId)) (w1 : World) : Prop where
 b : Below w.heap.size w w1
 r : ∀ x ∈ L, w1.heap[x.1]? = some (.cells x.2.1 x.2.2 (0, 0))
theorem Bk.start (w : World) : Bk w [] w := ⟨Below.refl _ _, fun x h => by cases h⟩
theorem Bk.below {w w1 w2 : World} {L : List (Nat × Array Value × TypeId)} (h : Bk w L w1) (hb : Below w1.heap.size w1 w2) : Bk w L w2 :=
 ⟨h.b.trans (hb.mono h.b.size), fun x hx => blk_below (h.r x hx) hb⟩
theorem Bk.push {w w1 : World} {L : List (Nat × Array Value × TypeId)} (h : Bk w L w1) (cs : Array Value) (t : TypeId) : Bk w ((w1.heap.size, cs, t) :: L) (w1.alloc (.cells cs t)) :=
 ⟨(h.below (below1 w1 _)).b, fun x hx => by
  rcases List.mem_cons.1 hx with rfl | hx
  ·exact blk_new w1 _
  ·exact (h.below (below1 w1 _)).r x hx⟩
theorem Bk.get {w w1 : World} {L : List (Nat × Array Value × TypeId)} (h : Bk w L w1) {n : Nat} {cs : Array Value} {t : TypeId} (hx : (n, cs, t) ∈ L) : w1.heap[n]? = some (.cells cs t (0, 0)) := h.r _ hx
theorem Bk.cell {w w1 : World} {L : List (Nat × Array Value × TypeId)} (h : Bk w L w1) {n : Nat} {cs : Array Value} {t : TypeId} (hx : (n, cs, t) ∈ L) {i : Nat} {u : Value} (hu : cs[i]? = some u) : w1.cell? ⟨n, i, none⟩ = some u := (blk_cell (h.r _ hx) i).trans hu
theorem flat_get {α : Type} (sz : Nat) : ∀ (xs : List (α × List Value)) (j : Nat) (p : α × List Value), (∀ q ∈ xs, q.2.length = sz) → xs[j]? = some p → ∀ i u, p.2[i]? = some u → (xs.flatMap (·.2))[j * sz + i]? = some u
 | [], j, p, _, h, _, _, _ => by simp at h
 | q :: xs, 0, p, hs, h, i, u, hu => by
  simp only [List.getElem?_cons_zero, Option.some.injEq] at h
  subst h
  rw [List.flatMap_cons, Nat.zero_mul, Nat.zero_add, List.getElem?_append_left (List.getElem?_eq_some_iff.1 hu).1]
  exact hu
 | q :: xs, j + 1, p, hs, h, i, u, hu => by
  simp only [List.getElem?_cons_succ] at h
  have ih := flat_get sz xs j p (fun r hr => hs r (List.mem_cons_of_mem _ hr)) h i u hu
  have hl := hs q List.mem_cons_self
  rw [List.flatMap_cons, List.getElem?_append_right (by rw [hl, Nat.add_mul]; omega)]
  rw [show (j + 1) * sz + i - q.2.length = j * sz + i by rw [hl, Nat.add_mul]; omega]
  exact ih
/-- A row whose cells stand in a block: what they read as. -/
theorem row_of {α : Type} (d : Kd α) {W : World} {g : Nat} {t : TypeId} (xs : List (α × List Value)) (hk : ∀ q ∈ xs, d.K W q.1 q.2) (hm : xs.length ≤ 9223372036854775807) (h : W.heap[g]? = some (.cells (xs.flatMap (·.2)).toArray t (0, 0))) : Kd.C d W (some ⟨g, 0, none⟩) xs.length (xs.map (·.1)) := by
 refine ⟨by simp, hm, fun _ => ⟨_, rfl, fun j p hp => ?_⟩⟩
 rw [List.getElem?_map] at hp
 obtain ⟨q, hq, rfl⟩ := Option.map_eq_some_iff.1 hp
 have hmem := List.mem_of_getElem? hq
 refine ⟨q.2, d.K_len (hk q hmem), hk q hmem, fun i u hu => ?_⟩
 rw [add_at, Nat.zero_add, blk_cell h]
 rw [List.getElem?_toArray]
 exact flat_get d.sz xs j q (fun r hr => d.K_len (hk r hr)) hq i u hu
theorem rnum_calls (n : Int) (h0 : -1000000000000000 ≤ n) (h1 : n ≤ 1000000000000000) (w : World) : Calls Tryz.prog 27 #[.int .i64 n] w fun e w' => e = .returned (.agg #[.int .i64 1, .int .i64 n]) ∧ Below w.heap.size w w' :=
 r8_Num.calls n 1 n w (by unfold r8_Num.f; rw [if_neg (by omega), if_neg (by omega)])
theorem rnull_calls (w : World) : Calls Tryz.prog 28 #[] w fun e w' => e = .returned (.agg #[.int .i64 2, .int .i64 0]) ∧ Below w.heap.size w w' := r8_Null.calls 2 0 w rfl
theorem rnan_calls (w : World) : Calls Tryz.prog 29 #[] w fun e w' => e = .returned (.agg #[.int .i64 3, .int .i64 0]) ∧ Below w.heap.size w w' := r8_NaN.calls 3 0 w rfl
/-- The document's 'same' of two that are. -/
theorem same_calls (A B : Option Addr) (c d : Nat) (l : List Ser) (hl : SersOk l) (w : World) (hA : Kd.C k37 w A l.length l) (hc : l.length ≤ c) (hB : Kd.C k37 w B l.length l) (hd : l.length ≤ d) :
  Calls Tryz.prog 16 #[.slice A l.length c, .slice B l.length d] w fun e w' => e = .returned (.bool true) ∧ Below w.heap.size w w' := by
 obtain ⟨k, hk⟩ := (sameS_ev l hl).rounds
 refine (r10_Same.calls k A c l B d l true w hA hc hB hd hk).mono fun e w' ⟨he, hw⟩ => ⟨he, ?_⟩
 obtain ⟨n, rfl⟩ := hw
 exact pbd (Below.refl _ _) n
theorem redH_calls (how : ByteArray) (strict : Bool) (A : Option Addr) (n c : Nat) (hk : howOk how = false) (w : World) :
  Calls Tryz.prog 10 #[.string how, .bool strict, .slice A n c] w fun e w' => e = .returned (.tuple #[.agg #[.int .i64 0, .int .i64 0], .int .i64 100]) ∧ Below w.heap.size w w' := by
 have hb0 := below1 w (.cells #[.int .i64 0, .int .i64 0] 25)
 have X0 := Sd.mk (blk_new w (.cells #[.int .i64 0, .int .i64 0] 25))
 have HB0 := Sd.mk hb0
 have HH := Sd.mk (howOk_calls how (w.alloc (.cells #[.int .i64 0, .int .i64 0] 25)))
 simp only [World.size_alloc] at HH
 rw [hk] at HH
 have mixed : Tryz.prog.follows .mixedOrders = true := by kernel_rfl
 clear hb0
 go_enter Tryz.func10, Tryz.ntmps10
 go_wp2_with fail
 refine HH.out.mono ?_
 rintro e w1 ⟨rfl, hb0⟩
 have hb1 : Below (w.alloc (.cells #[.int .i64 0, .int .i64 0] 25)).heap.size (w.alloc (.cells #[.int .i64 0, .int .i64 0] 25)) w1 := hb0.mono (by simp)
 have HB1 := Sd.mk (HB0.out.trans (hb1.mono HB0.out.size))
 have K1 := Sd.mk (blk_below X0.out hb1)
 clear hb0 hb1
 have d0 := (blk_cell K1.out 0).trans rfl
 have d1 := (blk_cell K1.out 1).trans rfl
 have f0 := blk_frozen K1.out 0
 have f1 := blk_frozen K1.out 1
 go_wp2
 exact bodyPost_ret (v := .tuple #[.agg #[.int .i64 0, .int .i64 0], .int .i64 100]) (by simp [results, Tryz.results10, go_sem, d0, d1]) rfl ⟨rfl, (HB1.out.setCell (by simp) _).setCell (by simp) _⟩
theorem redN_calls (how : ByteArray) (hm : how.toList = hMean) (hk : howOk how = true) (A : Option Addr) (c : Nat) (l : List Pt) (hl : l.length * 24 ≤ 140737488355328) (h2 : l.length ≤ 2000) (hn : ((l.length : Int) == 0) = false) (hbad : l.any badP = false) (hod : l.any oddP = true) (w : World) (hr : Kd.C k39 w A l.length l) (hc : l.length ≤ c) :
  Calls Tryz.prog 10 #[.string how, .bool true, .slice A l.length c] w fun e w' => e = .returned (.tuple #[.agg #[.int .i64 3, .int .i64 0], .int .i64 0]) ∧ Below w.heap.size w w' := by
 have hb0 := below1 w (.cells #[.int .i64 0, .int .i64 0] 25)
 have X0 := Sd.mk (blk_new w (.cells #[.int .i64 0, .int .i64 0] 25))
 have HB0 := Sd.mk hb0
 have HH := Sd.mk (howOk_calls how (w.alloc (.cells #[.int .i64 0, .int .i64 0] 25)))
 simp only [World.size_alloc] at HH
 rw [hk] at HH
 have mixed : Tryz.prog.follows .mixedOrders = true := by kernel_rfl
 have HR := Sd.mk hr
 have HC := Sd.mk hc
 have HL := Sd.mk hl
 have eg1 : ∀ args w, (callFunc 32 args).run Tryz.prog w = .ok (.enter 32 args) w := enters_of Tryz.func32 (by kernel_rfl) rfl
 have eg3 : ∀ args w, (callFunc 41 args).run Tryz.prog w = .ok (.enter 41 args) w := enters_of Tryz.func41 (by kernel_rfl) rfl
 have HBad := Sd.mk (fun (w1 : World) (hb : Below w.heap.size w w1) => containsPoint badP 32 #[] eg1 A c l w1 (Kd.C_below hr hb) (fun x hx w1 cs _ hK => by obtain rfl := k39_open hK; exact red1_calls x w1))
 have HOdd := Sd.mk (fun (p : List Pt) (A1 : Option Addr) (c1 : Nat) (w1 : World) (h : Kd.C k39 w1 A1 p.length p) => containsPoint oddP 41 #[] eg3 A1 c1 p w1 h (fun x hx w1 cs _ hK => by obtain rfl := k39_open hK; exact odd3_calls x w1))
 rw [hbad] at HBad
 have b1 : decide ((l.length : Int) > 2000) = false := decide_eq_false (by omega)
 have b2 : decide (2000 < l.length) = false := decide_eq_false (by omega)
 have hq1 : (how.toList == [99, 111, 117, 110, 116]) = false := by rw [hm]; rfl
 have hq3 : (how.toList == [108, 97, 115, 116]) = false := by rw [hm]; rfl
 have hq4 : (how.toList == [109, 105, 110]) = false := by rw [hm]; rfl
 have hq5 : (how.toList == [109, 97, 120]) = false := by rw [hm]; rfl
 have hq6 : (how.toList == [115, 117, 109]) = false := by rw [hm]; rfl
 clear hb0 hr hl hc eg1 eg3 hbad hm h2
 go_enter Tryz.func10, Tryz.ntmps10
 go_wp2_with fail
 refine HH.out.mono ?_
 rintro e w1 ⟨rfl, hb0⟩
 have hb1 : Below (w.alloc (.cells #[.int .i64 0, .int .i64 0] 25)).heap.size (w.alloc (.cells #[.int .i64 0, .int .i64 0] 25)) w1 := hb0.mono (by simp)
 have HB1 := Sd.mk (HB0.out.trans (hb1.mono HB0.out.size))
 have K1 := Sd.mk (blk_below X0.out hb1)
 clear hb0 hb1
 have HC1 := Sd.mk (HBad.out w1 HB1.out)
 go_wp2_with fail
 refine HC1.out.mono ?_
 rintro e w2 ⟨rfl, hb2⟩
 have HB2 := Sd.mk (HB1.out.trans (hb2.mono HB1.out.size))
 have K2 := Sd.mk (blk_below K1.out hb2)
 clear hb2 HC1 HH HBad
 have HOd := Sd.mk (HOdd.out l A c w2 (Kd.C_below HR.out HB2.out))
 rw [hod] at HOd
 go_wp2_with fail
 refine HOd.out.mono ?_
 rintro e w8 ⟨rfl, hb8⟩
 have K8 := Sd.mk (blk_below K2.out hb8)
 have HB8 := Sd.mk (HB2.out.trans (hb8.mono HB2.out.size))
 clear hb8
 go_wp2_with fail
 refine (v_NaN.calls 3 0 _ rfl).mono ?_
 rintro e w9 ⟨rfl, hb9⟩
 have KX := Sd.mk (blk_below K8.out hb9)
 have HWX := Sd.mk (HB8.out.trans (hb9.mono HB8.out.size))
 clear hb9
 have d0 := (blk_cell KX.out 0).trans rfl
 have d1 := (blk_cell KX.out 1).trans rfl
 have f0 := blk_frozen KX.out 0
 have f1 := blk_frozen KX.out 1
 go_wp2
 exact bodyPost_ret (v := .tuple #[.agg #[.int .i64 3, .int .i64 0], .int .i64 0]) (by simp [results, Tryz.results10, go_sem, d0, d1]) rfl ⟨rfl, (HWX.out.setCell (by simp) _).setCell (by simp) _⟩
theorem redM_calls (how : ByteArray) (hm : how.toList = hMean) (hk : howOk how = true) (A : Option Addr) (c : Nat) (l : List Pt) (hl : l.length * 24 ≤ 140737488355328) (h2 : l.length ≤ 2000) (hbad : l.any badP = false) {x : Pt} {p' p : List Pt} (hpe : l.filter (fun x => !oddP x) = p) (hp : p = x :: p') (hpn : ((p.length : Int) == 0) = false) (hod : p.any oddP = false) {r1 r2 r3 : Int} (hdo : ∀ t n, totalGo (valP x) p' = t → vNum (1000 * (p.length : Int)) = n → vDo ⟨#[47]⟩ [t, n] = ((r1, r2), r3)) (w : World) (hr : Kd.C k39 w A l.length l) (hc : l.length ≤ c) :
  Calls Tryz.prog 10 #[.string how, .bool false, .slice A l.length c] w fun e w' => e = .returned (.tuple #[.agg #[.int .i64 r1, .int .i64 r2], .int .i64 r3]) ∧ Below w.heap.size w w' := by
 have hb0 := below1 w (.cells #[.int .i64 0, .int .i64 0] 25)
 have X0 := Sd.mk (blk_new w (.cells #[.int .i64 0, .int .i64 0] 25))
 have HB0 := Sd.mk hb0
 have HH := Sd.mk (howOk_calls how (w.alloc (.cells #[.int .i64 0, .int .i64 0] 25)))
 simp only [World.size_alloc] at HH
 rw [hk] at HH
 have mixed : Tryz.prog.follows .mixedOrders = true := by kernel_rfl
 have HR := Sd.mk hr
 have HC := Sd.mk hc
 have HL := Sd.mk hl
 have eg1 : ∀ args w, (callFunc 32 args).run Tryz.prog w = .ok (.enter 32 args) w := enters_of Tryz.func32 (by kernel_rfl) rfl
 have eg3 : ∀ args w, (callFunc 41 args).run Tryz.prog w = .ok (.enter 41 args) w := enters_of Tryz.func41 (by kernel_rfl) rfl
 have HBad := Sd.mk (fun (w1 : World) (hb : Below w.heap.size w w1) => containsPoint badP 32 #[] eg1 A c l w1 (Kd.C_below hr hb) (fun x hx w1 cs _ hK => by obtain rfl := k39_open hK; exact red1_calls x w1))
 have HOdd := Sd.mk (fun (p : List Pt) (A1 : Option Addr) (c1 : Nat) (w1 : World) (h : Kd.C k39 w1 A1 p.length p) => containsPoint oddP 41 #[] eg3 A1 c1 p w1 h (fun x hx w1 cs _ hK => by obtain rfl := k39_open hK; exact odd3_calls x w1))
 rw [hbad] at HBad
 have b1 : decide ((l.length : Int) > 2000) = false := decide_eq_false (by omega)
 have b2 : decide (2000 < l.length) = false := decide_eq_false (by omega)
 have hq1 : (how.toList == [99, 111, 117, 110, 116]) = false := by rw [hm]; rfl
 have hq3 : (how.toList == [108, 97, 115, 116]) = false := by rw [hm]; rfl
 have hq4 : (how.toList == [109, 105, 110]) = false := by rw [hm]; rfl
 have hq5 : (how.toList == [109, 97, 120]) = false := by rw [hm]; rfl
 have hq6 : (how.toList == [115, 117, 109]) = false := by rw [hm]; rfl
 have hpl : p.length ≤ l.length := by rw [← hpe]; exact List.length_filter_le _ _
 have hp4 : p.length < 9223372036854775 := by omega
 have HP := Sd.mk hp
 have HPE := Sd.mk hpe
 have HDO := Sd.mk hdo
 clear hb0 hr hl hc eg1 eg3 hbad hm h2 hp hpe hdo
 go_enter Tryz.func10, Tryz.ntmps10
 go_wp2_with fail
 refine HH.out.mono ?_
 rintro e w1 ⟨rfl, hb0⟩
 have hb1 : Below (w.alloc (.cells #[.int .i64 0, .int .i64 0] 25)).heap.size (w.alloc (.cells #[.int .i64 0, .int .i64 0] 25)) w1 := hb0.mono (by simp)
 have HB1 := Sd.mk (HB0.out.trans (hb1.mono HB0.out.size))
 have K1 := Sd.mk (blk_below X0.out hb1)
 clear hb0 hb1
 have HC1 := Sd.mk (HBad.out w1 HB1.out)
 go_wp2_with fail
 refine HC1.out.mono ?_
 rintro e w2 ⟨rfl, hb2⟩
 have HB2 := Sd.mk (HB1.out.trans (hb2.mono HB1.out.size))
 have K2 := Sd.mk (blk_below K1.out hb2)
 clear hb2 HC1 HH HBad
 go_wp2_with fail
 refine (clonePoint A c l w2 (Kd.C_below HR.out HB2.out) HL.out).mono ?_
 rintro e w3 ⟨v3, rfl, hv3, hb3⟩
 have HDl := Sd.mk (deleteP_calls l v3 w2 w3 hv3 hb3)
 clear hv3 hb3
 go_wp2_with fail
 refine HDl.out.mono ?_
 rintro e w4 ⟨v4, rfl, hv4, hb4⟩
 have HB4 := Sd.mk (HB2.out.trans (hb4.mono HB2.out.size))
 have K4 := Sd.mk (blk_below K2.out hb4)
 rw [HPE.out] at hv4
 obtain ⟨A4, c4, rfl, hc4, hC4⟩ := Kd.R_reads hv4
 have HCp := Sd.mk hC4
 have Hcp := Sd.mk hc4
 clear hv4 hb4 hC4 hc4 HDl K2
 have HOd := Sd.mk (HOdd.out p A4 c4 w4 HCp.out)
 rw [hod] at HOd
 go_wp2_with fail
 refine HOd.out.mono ?_
 rintro e w8 ⟨rfl, hb8⟩
 have HCp8 := Sd.mk (Kd.C_below HCp.out hb8)
 have K8 := Sd.mk (blk_below K4.out hb8)
 have HB8 := Sd.mk (HB4.out.trans (hb8.mono HB4.out.size))
 clear hb8
 have HMy := Sd.mk (total_at A4 c4 HP.out w8 HCp8.out Hcp.out)
 have HMn := Sd.mk (fun (w9 : World) (h : Below w8.heap.size w8 w9) => many_calls A4 c4 p w9 (Kd.C_below HCp8.out h) Hcp.out hp4)
 have HZ5 := Sd.mk (HDO.out _ _ rfl rfl)
 generalize totalGo (valP x) p' = nm at HMy HZ5
 generalize vNum (1000 * (p.length : Int)) = nn at HMn HZ5
 obtain ⟨t1, t2⟩ := nm
 obtain ⟨n1, n2⟩ := nn
 simp only at HMy HMn
 have HD := Sd.mk (fun w1 => do2_any ⟨#[47]⟩ t1 t2 n1 n2 w1 HZ5.out)
 go_wp2_with fail
 refine HMy.out.mono ?_
 rintro e w9 ⟨rfl, hb9⟩
 have K9 := Sd.mk (blk_below K8.out hb9)
 have HB9 := Sd.mk (HB8.out.trans (hb9.mono HB8.out.size))
 have HM9 := Sd.mk (HMn.out w9 hb9)
 clear hb9 HMn
 go_wp2_with fail
 refine HM9.out.mono ?_
 rintro e w10 ⟨rfl, hb10⟩
 have K10 := Sd.mk (blk_below K9.out hb10)
 have HB10 := Sd.mk (HB9.out.trans (hb10.mono HB9.out.size))
 clear hb10
 go_wp2_with fail
 refine (HD.out w10).mono ?_
 rintro e w11 ⟨rfl, hb11⟩
 have KX := Sd.mk (blk_below K10.out hb11)
 have HWX := Sd.mk (HB10.out.trans (hb11.mono HB10.out.size))
 clear hb11
 have d0 := (blk_cell KX.out 0).trans rfl
 have d1 := (blk_cell KX.out 1).trans rfl
 have f0 := blk_frozen KX.out 0
 have f1 := blk_frozen KX.out 1
 go_wp2
 exact bodyPost_ret (v := .tuple #[.agg #[.int .i64 r1, .int .i64 r2], .int .i64 r3]) (by simp [results, Tryz.results10, go_sem, d0, d1]) rfl ⟨rfl, (HWX.out.setCell (by simp) _).setCell (by simp) _⟩
abbrev liveP : List Pt := [⟨0, ⟨1, 1000⟩⟩, ⟨0, ⟨1, 2000⟩⟩, ⟨0, ⟨2, 0⟩⟩]
abbrev lx : List Lab := [⟨⟨#[97]⟩, ⟨#[49]⟩⟩]
abbrev ly : List Lab := [⟨⟨#[97]⟩, ⟨#[49]⟩⟩, ⟨⟨#[98]⟩, ⟨#[49]⟩⟩]
abbrev lz : List Lab := [⟨⟨#[97]⟩, ⟨#[50]⟩⟩]
abbrev sx : Ser := ⟨lx, ⟨1, 1⟩⟩
abbrev sz : Ser := ⟨lz, ⟨1, 2⟩⟩
abbrev sy : Ser := ⟨ly, ⟨1, 10⟩⟩
abbrev sj : Ser := ⟨ly, ⟨1, 11⟩⟩
theorem set_lx : isSet lx = true := by kernel_rfl
theorem set_ly : isSet ly = true := by kernel_rfl
theorem set_lz : isSet lz = true := by kernel_rfl
theorem isV_small (n : Int) (h0 : 0 ≤ n) (h1 : n ≤ 100) : isV ((1 : Int), n) := .inl ⟨rfl, by show (-1000000000000000 : Int) ≤ n; omega, by show n ≤ (1000000000000000 : Int); omega⟩
theorem live_s1 : vSort [sx, sz] = ([sx, sz], 0) := vSort_strict (fun x hx => by
 rcases List.mem_cons.1 hx with rfl | hx
 ·exact set_lx
 ·rw [List.mem_singleton.1 hx]; exact set_lz) (fun x hx => by
 rcases List.mem_cons.1 hx with rfl | hx
 ·exact isV_small 1 (by omega) (by omega)
 ·rw [List.mem_singleton.1 hx]; exact isV_small 2 (by omega) (by omega)) (by
 refine List.pairwise_cons.2 ⟨fun y hy => ?_, List.pairwise_singleton _ _⟩
 rw [List.mem_singleton.1 hy]
 have e : cmpSer sx sz = -1 := by kernel_rfl
 omega) (by decide)
theorem live_s2 : vSort [sy] = ([sy], 0) := vSort_strict (fun x hx => by rw [List.mem_singleton.1 hx]; exact set_ly) (fun x hx => by rw [List.mem_singleton.1 hx]; exact isV_small 10 (by omega) (by omega)) (List.pairwise_singleton _ _) (by decide)
theorem live_s3 : vSort [sj] = ([sj], 0) := vSort_strict (fun x hx => by rw [List.mem_singleton.1 hx]; exact set_ly) (fun x hx => by rw [List.mem_singleton.1 hx]; exact isV_small 11 (by omega) (by omega)) (List.pairwise_singleton _ _) (by decide)
theorem live_j : vJoin ⟨#[43]⟩ [sx, sz] [sy] = ([sj], 0) := by
 have e1 : (vDo ⟨#[43]⟩ [(1, 0), (1, 0)]).2 = 0 := by kernel_rfl
 have f1 : fits sx sy = true := by kernel_rfl
 have f2 : fits sz sy = false := by kernel_rfl
 have hd : vDo ⟨#[43]⟩ [((1 : Int), (1 : Int)), (1, 10)] = ((1, 11), 0) := by kernel_rfl
 have hp : pairsJ ⟨#[43]⟩ [sx, sz] [sy] = [sj] := by
  have r1 : rowJ ⟨#[43]⟩ sx [sy] = [sj] := by
   unfold rowJ
   rw [List.filter_cons_of_pos f1, List.filter_nil, List.map_cons, List.map_nil]
   have h0 := joinS_labels (op := ⟨#[43]⟩) (x := sx) (y := sy) set_lx set_ly f1
   rw [if_pos (by decide)] at h0
   have h1 : (joinS ⟨#[43]⟩ sx sy).f1 = ⟨1, 11⟩ := by unfold joinS; simp only [hd]
   have e : joinS ⟨#[43]⟩ sx sy = ⟨(joinS ⟨#[43]⟩ sx sy).f0, (joinS ⟨#[43]⟩ sx sy).f1⟩ := rfl
   rw [e, h0, h1]
  have r2 : rowJ ⟨#[43]⟩ sz [sy] = [] := by
   unfold rowJ
   rw [List.filter_cons_of_neg (by rw [f2]; simp), List.filter_nil, List.map_nil]
  unfold pairsJ
  rw [List.flatMap_cons, List.flatMap_cons, List.flatMap_nil, r1, r2]; rfl
 unfold vJoin
 rw [live_s1, live_s2]
 simp only [e1, if_true]
 rw [hp]; exact live_s3
theorem sok1 : SersOk [sx, sz] := ⟨by decide, fun x hx => by
 rcases List.mem_cons.1 hx with rfl | hx
 ·exact ⟨by decide, (set_ok set_lx).1⟩
 ·rw [List.mem_singleton.1 hx]; exact ⟨by decide, (set_ok set_lz).1⟩⟩
theorem sok2 : SersOk [sy] := ⟨by decide, fun x hx => by rw [List.mem_singleton.1 hx]; exact ⟨by decide, (set_ok set_ly).1⟩⟩
theorem sok3 : SersOk [sj] := ⟨by decide, fun x hx => by rw [List.mem_singleton.1 hx]; exact ⟨by decide, (set_ok set_ly).1⟩⟩
theorem red1 (A : Option Addr) (c : Nat) (hc : 3 ≤ c) (w : World) (hr : Kd.C k39 w A 3 liveP) : Calls Tryz.prog 10 #[.string ⟨#[109, 101, 97, 110]⟩, .bool false, .slice A 3 c] w fun e w' => e = .returned (.tuple #[.agg #[.int .i64 1, .int .i64 1500], .int .i64 0]) ∧ Below w.heap.size w w' := by
 exact redM_calls ⟨#[109, 101, 97, 110]⟩ (by rw [Lib.toList_data]; rfl) (by kernel_rfl) A c liveP (by decide) (by decide) (by kernel_rfl) (x := ⟨0, ⟨1, 1000⟩⟩) (p' := [⟨0, ⟨1, 2000⟩⟩]) (p := [⟨0, ⟨1, 1000⟩⟩, ⟨0, ⟨1, 2000⟩⟩]) (by kernel_rfl) rfl rfl (by kernel_rfl) (fun t n ht hn => by subst ht; subst hn; kernel_rfl) w hr hc
theorem red2 (A : Option Addr) (c : Nat) (hc : 3 ≤ c) (w : World) (hr : Kd.C k39 w A 3 liveP) : Calls Tryz.prog 10 #[.string ⟨#[109, 101, 97, 110]⟩, .bool true, .slice A 3 c] w fun e w' => e = .returned (.tuple #[.agg #[.int .i64 3, .int .i64 0], .int .i64 0]) ∧ Below w.heap.size w w' := by
 exact redN_calls ⟨#[109, 101, 97, 110]⟩ (by rw [Lib.toList_data]; rfl) (by kernel_rfl) A c liveP (by decide) (by decide) rfl (by kernel_rfl) (by kernel_rfl) w hr hc
theorem red3 (w : World) : Calls Tryz.prog 10 #[.string ⟨#[110, 111, 110, 101]⟩, .bool false, .slice none 0 0] w fun e w' => e = .returned (.tuple #[.agg #[.int .i64 0, .int .i64 0], .int .i64 100]) ∧ Below w.heap.size w w' := by
 exact redH_calls ⟨#[110, 111, 110, 101]⟩ false none 0 0 (by kernel_rfl) w
theorem joinl (A B : Option Addr) (w : World) (hA : Kd.C k37 w A 2 [sx, sz]) (hB : Kd.C k37 w B 1 [sy]) : Calls Tryz.prog 19 #[.string ⟨#[43]⟩, .slice A 2 2, .slice B 1 1] w fun e w' => ∃ v : Value, e = .returned (.tuple #[v, .int .i64 0]) ∧ Kd.N k37 37 w' w.heap.size (fun _ => True) v [sj] ∧ Below w.heap.size w w' := by
 have h := sjoin_calls ⟨#[43]⟩ A B 2 1 [sx, sz] [sy] sok1 sok2 w hA hB
 rw [live_j] at h
 exact h
/-- What stands while the answers are held against each other. -/
def LiveS (w : World) (N1 N2 Y : Nat) (Aj : Option Addr) (cj : Nat) (w' : World) : Prop := Below w.heap.size w w' ∧ w'.cell? ⟨N1, 0, none⟩ = some (.int .i64 1) ∧ w'.cell? ⟨N1, 1, none⟩ = some (.int .i64 1500) ∧ w'.cell? ⟨N2, 0, none⟩ = some (.int .i64 3) ∧ w'.cell? ⟨N2, 1, none⟩ = some (.int .i64 0) ∧ Sd (Kd.C k62 w' (some ⟨Y, 0, none⟩) 2 ly) ∧ Sd (Kd.C k37 w' Aj 1 [sj] ∧ 1 ≤ cj)
theorem LiveS.below {w w1 w2 : World} {N1 N2 Y : Nat} {Aj : Option Addr} {cj : Nat} (h : LiveS w N1 N2 Y Aj cj w1) (hb : Below w1.heap.size w1 w2) : LiveS w N1 N2 Y Aj cj w2 := by
 obtain ⟨h0, h1, h2, h3, h4, h5, h6⟩ := h
 exact ⟨h0.trans (hb.mono h0.size), pw_cell_below hb h1, pw_cell_below hb h2, pw_cell_below hb h3, pw_cell_below hb h4, ⟨Kd.C_below h5.out hb⟩, ⟨⟨Kd.C_below h6.out.1 hb, h6.out.2⟩⟩⟩
theorem LiveS.drew {w w1 : World} {N1 N2 Y : Nat} {Aj : Option Addr} {cj : Nat} (h : LiveS w N1 N2 Y Aj cj w1) : LiveS w N1 N2 Y Aj cj w1.drew := h.below (Below.refl _ _).drew
theorem LiveS.alloc {w w1 : World} {N1 N2 Y : Nat} {Aj : Option Addr} {cj : Nat} (h : LiveS w N1 N2 Y Aj cj w1) (o : Obj) : LiveS w N1 N2 Y Aj cj (w1.alloc o) := h.below (below1 w1 o)
/-- 'Same', at a list that is laid just now. -/
theorem same_fresh {w W : World} {N1 N2 Y : Nat} {Aj : Option Addr} {cj : Nat} (h : LiveS w N1 N2 Y Aj cj W) : Calls Tryz.prog 16 #[.slice Aj 1 cj, .slice (some ⟨W.heap.size, 0, none⟩) 1 1] (W.alloc (.cells #[.slice (some ⟨Y, 0, none⟩) 2 2, .int .i64 1, .int .i64 11] 37)) fun e w' => e = .returned (.bool true) ∧ Below W.heap.size W w' := by
 have hb := below1 W (.cells #[.slice (some ⟨Y, 0, none⟩) 2 2, .int .i64 1, .int .i64 11] 37)
 have h5 := Kd.C_below h.2.2.2.2.2.1.out hb
 have h6 := Kd.C_below h.2.2.2.2.2.2.out.1 hb
 have hC := row_of k37 (g := W.heap.size) [(sj, [.slice (some ⟨Y, 0, none⟩) 2 2, .int .i64 1, .int .i64 11])] (fun q hq => by
  rw [List.mem_singleton.1 hq]
  exact k37_mk _ sj (Nat.le_refl 2) h5) (by simp) (blk_new W _)
 exact (same_calls Aj _ cj 1 [sj] sok3 _ h6 h.2.2.2.2.2.2.out.2 hC (Nat.le_refl 1)).mono fun e w' ⟨he, hw⟩ => ⟨he, hb.trans (hw.mono hb.size)⟩
theorem num_calls10 (n : Int) (w : World) : Calls Tryz.prog 12 #[.int .i64 n] w fun e w' => e = .returned (.int .i64 n) ∧ Below w.heap.size w w' :=
 (l10_num.calls n n w rfl).mono fun e w' ⟨he, hw⟩ => ⟨he, by obtain ⟨m, rfl⟩ := hw; exact pbd (Below.refl _ _) m⟩
def l10_live.f : Option Bool := some true
abbrev cP : Array Value := #[.int .i64 0, .int .i64 1, .int .i64 1000, .int .i64 0, .int .i64 1, .int .i64 2000, .int .i64 0, .int .i64 2, .int .i64 0]
theorem liveP_C {W : World} {g : Nat} (h : W.heap[g]? = some (.cells cP 39 (0, 0))) : Kd.C k39 W (some ⟨g, 0, none⟩) 3 liveP :=
 row_of k39 [(⟨0, ⟨1, 1000⟩⟩, [.int .i64 0, .int .i64 1, .int .i64 1000]), (⟨0, ⟨1, 2000⟩⟩, [.int .i64 0, .int .i64 1, .int .i64 2000]), (⟨0, ⟨2, 0⟩⟩, [.int .i64 0, .int .i64 2, .int .i64 0])] (fun q hq => by
  simp only [List.mem_cons, List.not_mem_nil, or_false] at hq
  rcases hq with rfl | rfl | rfl <;> exact k39_mk _ _) (by simp) h
theorem lab1_C {W : World} {g : Nat} {a b : ByteArray} (h : W.heap[g]? = some (.cells #[.string a, .string b] 62 (0, 0))) : Kd.C k62 W (some ⟨g, 0, none⟩) 1 [⟨a, b⟩] :=
 row_of k62 [(⟨a, b⟩, [.string a, .string b])] (fun q hq => by rw [List.mem_singleton.1 hq]; exact k62_mk _ _) (by simp) h
theorem lab2_C {W : World} {g : Nat} {a b c d : ByteArray} (h : W.heap[g]? = some (.cells #[.string a, .string b, .string c, .string d] 62 (0, 0))) : Kd.C k62 W (some ⟨g, 0, none⟩) 2 [⟨a, b⟩, ⟨c, d⟩] :=
 row_of k62 [(⟨a, b⟩, [.string a, .string b]), (⟨c, d⟩, [.string c, .string d])] (fun q hq => by
  simp only [List.mem_cons, List.not_mem_nil, or_false] at hq
  rcases hq with rfl | rfl <;> exact k62_mk _ _) (by simp) h
theorem ser1_C {W : World} {g Y : Nat} {x : List Lab} {n k m : Nat} (h : W.heap[g]? = some (.cells #[.slice (some ⟨Y, 0, none⟩) n n, .int .i64 k, .int .i64 m] 37 (0, 0))) (hx : Kd.C k62 W (some ⟨Y, 0, none⟩) n x) (hn : n = x.length) : Kd.C k37 W (some ⟨g, 0, none⟩) 1 [⟨x, ⟨k, m⟩⟩] := by
 subst hn
 exact row_of k37 [((⟨x, ⟨k, m⟩⟩ : Ser), [.slice (some ⟨Y, 0, none⟩) x.length x.length, .int .i64 k, .int .i64 m])] (fun q hq => by rw [List.mem_singleton.1 hq]; exact k37_mk _ (⟨x, ⟨k, m⟩⟩ : Ser) (Nat.le_refl _) hx) (by simp) h
theorem ser2_C {W : World} {g Y Z : Nat} {x z : List Lab} {n n' : Nat} {k m k' m' : Int} (h : W.heap[g]? = some (.cells #[.slice (some ⟨Y, 0, none⟩) n n, .int .i64 k, .int .i64 m, .slice (some ⟨Z, 0, none⟩) n' n', .int .i64 k', .int .i64 m'] 37 (0, 0))) (hx : Kd.C k62 W (some ⟨Y, 0, none⟩) n x) (hn : n = x.length) (hz : Kd.C k62 W (some ⟨Z, 0, none⟩) n' z) (hn' : n' = z.length) : Kd.C k37 W (some ⟨g, 0, none⟩) 2 [⟨x, ⟨k, m⟩⟩, ⟨z, ⟨k', m'⟩⟩] := by
 subst hn; subst hn'
 exact row_of k37 [((⟨x, ⟨k, m⟩⟩ : Ser), [.slice (some ⟨Y, 0, none⟩) x.length x.length, .int .i64 k, .int .i64 m]), ((⟨z, ⟨k', m'⟩⟩ : Ser), [.slice (some ⟨Z, 0, none⟩) z.length z.length, .int .i64 k', .int .i64 m'])] (fun q hq => by
  simp only [List.mem_cons, List.not_mem_nil, or_false] at hq
  rcases hq with rfl | rfl
  ·exact k37_mk _ (⟨x, ⟨k, m⟩⟩ : Ser) (Nat.le_refl _) hx
  ·exact k37_mk _ (⟨z, ⟨k', m'⟩⟩ : Ser) (Nat.le_refl _) hz) (by simp) h
attribute [local go_sem high] eqA25
theorem l10_live.calls (r : Bool) (w : World) (h : l10_live.f = some r) : Calls Tryz.prog 9 #[] w fun e w' => e = .returned (.bool r) ∧ Below w.heap.size w w' := by
 injection h with h
 subst h
 have mixed : Tryz.prog.follows .mixedOrders = true := by kernel_rfl
 go_enter Tryz.func9, Tryz.ntmps9
 go_wp2_with fail
 refine (rnum_calls 1000 (by omega) (by omega) w).mono ?_
 rintro e w1 ⟨rfl, hb1⟩
 go_wp2_with fail
 refine (rnum_calls 2000 (by omega) (by omega) w1).mono ?_
 rintro e w2 ⟨rfl, hb2⟩
 go_wp2_with fail
 refine (rnull_calls w2).mono ?_
 rintro e w3 ⟨rfl, hb3⟩
 have HK := Sd.mk ((((Bk.start w).below hb1).below hb2).below hb3)
 clear hb1 hb2 hb3
 have HK3 := Sd.mk (HK.out.push cP 39)
 go_wp2_with fail
 refine (red1 _ 3 (Nat.le_refl 3) _ (liveP_C (HK3.out.get List.mem_cons_self))).mono ?_
 rintro e w4 ⟨rfl, hb4⟩
 have HK4 := Sd.mk (HK3.out.below hb4)
 have HK4b := Sd.mk (HK4.out.push #[.int .i64 1, .int .i64 1500] 25)
 obtain ⟨L, hL⟩ : ∃ L, w3.heap.size = L := ⟨_, rfl⟩
 obtain ⟨N1, hN1⟩ : ∃ L, w4.heap.size = L := ⟨_, rfl⟩
 rw [hL] at HK4b
 rw [hN1] at HK4b
 go_wp2_with fail
 clear hb4 HK HK3 HK4 hL
 refine (red2 _ 3 (Nat.le_refl 3) _ (liveP_C (HK4b.out.get (n := L) (by simp)))).mono ?_
 rintro e w5 ⟨rfl, hb5⟩
 have HK5 := Sd.mk (HK4b.out.below hb5)
 have HK5b := Sd.mk ((((HK5.out.push #[.int .i64 3, .int .i64 0] 25).push #[.string ⟨#[97]⟩, .string ⟨#[49]⟩] 62).push #[.string ⟨#[97]⟩, .string ⟨#[49]⟩, .string ⟨#[98]⟩, .string ⟨#[49]⟩] 62).push #[.string ⟨#[97]⟩, .string ⟨#[50]⟩] 62)
 simp only [World.size_alloc] at HK5b
 obtain ⟨N2, hN2⟩ : ∃ L, w5.heap.size = L := ⟨_, rfl⟩
 rw [hN2] at HK5b
 clear hb5 HK5 HK4b hN1
 go_wp2_with fail
 refine (rnum_calls 1 (by omega) (by omega) _).mono ?_
 rintro e w6 ⟨rfl, hb6⟩
 have HK6 := Sd.mk (HK5b.out.below hb6)
 clear hb6 HK5b hN2
 go_wp2_with fail
 refine (rnum_calls 2 (by omega) (by omega) w6).mono ?_
 rintro e w7 ⟨rfl, hb7⟩
 have HK7 := Sd.mk (HK6.out.below hb7)
 have HK7b := Sd.mk (HK7.out.push #[.slice (some ⟨N2 + 1, 0, none⟩) 1 1, .int .i64 1, .int .i64 1, .slice (some ⟨N2 + 1 + 1 + 1, 0, none⟩) 1 1, .int .i64 1, .int .i64 2] 37)
 obtain ⟨P, hP⟩ : ∃ L, w7.heap.size = L := ⟨_, rfl⟩
 rw [hP] at HK7b
 clear hb7 HK6 HK7
 go_wp2_with fail
 refine (rnum_calls 10 (by omega) (by omega) _).mono ?_
 rintro e w8 ⟨rfl, hb8⟩
 have HK8 := Sd.mk (HK7b.out.below hb8)
 have HK8b := Sd.mk (HK8.out.push #[.slice (some ⟨N2 + 1 + 1, 0, none⟩) 2 2, .int .i64 1, .int .i64 10] 37)
 obtain ⟨Q, hQ⟩ : ∃ L, w8.heap.size = L := ⟨_, rfl⟩
 rw [hQ] at HK8b
 clear hb8 HK7b HK8 hP
 go_wp2_with fail
 refine (joinl (some ⟨P, 0, none⟩) (some ⟨Q, 0, none⟩) _ (ser2_C (HK8b.out.get (n := P) (by simp)) (lab1_C (HK8b.out.get (n := N2 + 1) (by simp))) rfl (lab1_C (HK8b.out.get (n := N2 + 1 + 1 + 1) (by simp))) rfl) (ser1_C (HK8b.out.get (n := Q) (by simp)) (lab2_C (HK8b.out.get (n := N2 + 1 + 1) (by simp))) rfl)).mono ?_
 rintro e w9 ⟨v, rfl, hv, hb9⟩
 have HK9 := Sd.mk (HK8b.out.below hb9)
 obtain ⟨Aj, cj, rfl, hcj, hCj⟩ := Kd.N_reads hv
 have HJ := Sd.mk (And.intro hCj hcj)
 clear hb9 HK8b hQ hv hcj hCj
 go_wp2_with fail
 refine (red3 w9).mono ?_
 rintro e w10 ⟨rfl, hb10⟩
 have HK10 := Sd.mk (HK9.out.below hb10)
 have hba := below1 w10 (.cells #[.int .i64 0, .int .i64 0] 25)
 have HK11 := Sd.mk (HK10.out.below hba)
 have S0 : LiveS w N1 N2 (N2 + 1 + 1) Aj cj (w10.alloc (.cells #[.int .i64 0, .int .i64 0] 25)) := ⟨HK11.out.b, HK11.out.cell (n := N1) (cs := #[.int .i64 1, .int .i64 1500]) (t := 25) (i := 0) (by simp) rfl, HK11.out.cell (n := N1) (cs := #[.int .i64 1, .int .i64 1500]) (t := 25) (i := 1) (by simp) rfl, HK11.out.cell (n := N2) (cs := #[.int .i64 3, .int .i64 0]) (t := 25) (i := 0) (by simp) rfl, HK11.out.cell (n := N2) (cs := #[.int .i64 3, .int .i64 0]) (t := 25) (i := 1) (by simp) rfl, ⟨lab2_C (HK11.out.get (n := N2 + 1 + 1) (by simp))⟩, ⟨⟨Kd.C_below (Kd.C_below HJ.out.1 hb10) hba, HJ.out.2⟩⟩⟩
 clear hb10 hba HK9 HK10 HK11 HJ
 go_wp2_with fail
 generalize w10.alloc (.cells #[.int .i64 0, .int .i64 0] 25) = W at S0 ⊢
 have S1 : LiveS w N1 N2 (N2 + 1 + 1) Aj cj W := S0
 clear S0
 go_region_held3 (fun w' => Below w.heap.size w w' ∧ w'.cell? ⟨N1, 0, none⟩ = some (.int .i64 1) ∧ w'.cell? ⟨N1, 1, none⟩ = some (.int .i64 1500) ∧ w'.cell? ⟨N2, 0, none⟩ = some (.int .i64 3) ∧ w'.cell? ⟨N2, 1, none⟩ = some (.int .i64 0) ∧ Sd (Kd.C k62 w' (some ⟨N2 + 1 + 1, 0, none⟩) 2 ly) ∧ Sd (Kd.C k37 w' Aj 1 [sj] ∧ 1 ≤ cj)) (first | exact hS | exact LiveS.drew (by assumption) | exact LiveS.alloc (by assumption) _ | go_keep)
  (first
   | (go_at_call 12; (with_reducible refine (num_calls10 _ _).mono ?_); rintro e w2 ⟨rfl, hb1⟩; have hS : LiveS w N1 N2 (N2 + 1 + 1) Aj cj _ := LiveS.below (by assumption) hb1; clear hb1)
   | (go_at_call 27; (with_reducible refine (rnum_calls 1500 (by omega) (by omega) _).mono ?_); rintro e w2 ⟨rfl, hb1⟩; have hS : LiveS w N1 N2 (N2 + 1 + 1) Aj cj _ := LiveS.below (by assumption) hb1; clear hb1)
   | (go_at_call 27; (with_reducible refine (rnum_calls 11 (by omega) (by omega) _).mono ?_); rintro e w2 ⟨rfl, hb1⟩; have hS : LiveS w N1 N2 (N2 + 1 + 1) Aj cj _ := LiveS.below (by assumption) hb1; clear hb1)
   | (go_at_call 29; (with_reducible refine (rnan_calls _).mono ?_); rintro e w2 ⟨rfl, hb1⟩; have hS : LiveS w N1 N2 (N2 + 1 + 1) Aj cj _ := LiveS.below (by assumption) hb1; clear hb1)
   | (go_at_call 16; (refine (same_fresh (show LiveS w N1 N2 (N2 + 1 + 1) Aj cj _ by assumption)).mono ?_); rintro e w2 ⟨rfl, hb1⟩; have hS : LiveS w N1 N2 (N2 + 1 + 1) Aj cj _ := LiveS.below (by assumption) hb1; clear hb1))
 go_wp2
 go_ret
 exact ⟨by simp, (show LiveS w N1 N2 (N2 + 1 + 1) Aj cj _ by assumption).1⟩
theorem op2_add : tab2.lookup ⟨#[43]⟩ = some (vNumbers vAdd) := rfl
theorem op2_sub : tab2.lookup ⟨#[45]⟩ = some (vNumbers vSub) := rfl
theorem op2_mul : tab2.lookup ⟨#[42]⟩ = some (vNumbers vMul) := rfl
theorem op2_div : tab2.lookup ⟨#[47]⟩ = some (vNumbers vDiv) := rfl
theorem op2_eq : tab2.lookup ⟨#[61, 61]⟩ = some (vOrder false (fun m n => m == n)) := rfl
theorem op2_ne : tab2.lookup ⟨#[33, 61]⟩ = some (vOrder true (fun m n => m != n)) := rfl
theorem op2_lt : tab2.lookup ⟨#[60]⟩ = some (vOrder false (fun m n => decide (m < n))) := rfl
theorem op2_le : tab2.lookup ⟨#[60, 61]⟩ = some (vOrder false (fun m n => decide (m ≤ n))) := rfl
theorem op2_gt : tab2.lookup ⟨#[62]⟩ = some (vOrder false (fun m n => decide (m > n))) := rfl
theorem op2_ge : tab2.lookup ⟨#[62, 61]⟩ = some (vOrder false (fun m n => decide (m ≥ n))) := rfl
theorem op2_and : tab2.lookup ⟨#[38, 38]⟩ = some vAnd := rfl
theorem op2_or : tab2.lookup ⟨#[124, 124]⟩ = some vOr := rfl
/-- What an operation of two values comes to. -/
def vTwo (F : V → V → V) (a b : V) : V := if a.1 = 2 ∨ b.1 = 2 then (2, 0) else F a b
def r8_Less.j0 : Nat → Bool → Int → Int → Int → Int → Option (Bool)
 | 0, _, _, _, _, _ => none
 | k + 1, x5, x269000, x269001, x270000, x270001 => if x5 = true then (some (decide (x269001 < x270001))) else (if x269000 = x270000 then (some false) else (if x269000 = 5 then (some true) else (some (x270000 == 4))))
def r8_Less.f (k : Nat) (a0_0 : Int) (a0_1 : Int) (a1_0 : Int) (a1_1 : Int) : Option (Bool) := (r8_num.f a0_0 a0_1).bind fun t270 => (if t270 = true then ((r8_num.f a1_0 a1_1).bind fun t271 => (r8_Less.j0 k t271 a0_0 a0_1 a1_0 a1_1)) else (r8_Less.j0 k false a0_0 a0_1 a1_0 a1_1))
theorem r8_Less.calls (k : Nat) (a0_0 : Int) (a0_1 : Int) (a1_0 : Int) (a1_1 : Int) (r : Bool) (w : World) (h : r8_Less.f k a0_0 a0_1 a1_0 a1_1 = some r) :
  Calls Tryz.prog 48 #[.agg #[.int .i64 a0_0, .int .i64 a0_1], .agg #[.int .i64 a1_0, .int .i64 a1_1]] w fun e w' => e = .returned (.bool r) ∧ Below w.heap.size w w' := by
 have hu25 := Tryz.underlying25
 have HB := zsB w
 have H : ((r8_num.f a0_0 a0_1).bind fun t270 => (if t270 = true then ((r8_num.f a1_0 a1_1).bind fun t271 => (r8_Less.j0 k t271 a0_0 a0_1 a1_0 a1_1)) else (r8_Less.j0 k false a0_0 a0_1 a1_0 a1_1))) = some r := h
 clear h
 have HC3 := Sd.mk H
 clear H
 go_enter Tryz.func48, Tryz.ntmps48
 go_upto_region 1 with (first | ((with_reducible refine gate_dst (N := 2) rfl ?_); refine bxe (N := 2) (cs := #[.int .i64 a0_0, .int .i64 a0_1]) (t := 25) ?_; intro gb268 hg w4 hbox hb; have BK268 := Sd.mk hbox; have GW268 := bge w hg; replace HB := bsq w hb; clear hb hbox hg) | ((with_reducible refine gate_dst (N := 3) rfl ?_); refine bxe (N := 3) (cs := #[.int .i64 a1_0, .int .i64 a1_1]) (t := 25) ?_; intro gb269 hg w5 hbox hb; have BK269 := Sd.mk hbox; have GW269 := bge w hg; have NB268_269 := bnl BK268 hg; have NB269_268 := bng BK268 hg; replace BK268 := bkb BK268 hb; replace HB := bsq w hb; clear hb hbox hg))
 (try simp only [Act.put, List.setIfInBounds_toArray, List.set_cons_zero, List.set_cons_succ])
 go_cut [5] (fun v5 wc => ∃ (kq : Nat) (x5_2 : Bool), v5 = .bool x5_2 ∧ Sd (r8_Less.j0 kq x5_2 a0_0 a0_1 a1_0 a1_1 = some r) ∧ Sd (kq ≤ k) ∧ Sd (wc.heap[gb268]? = some (.cells #[.int .i64 a0_0, .int .i64 a0_1] 25 (0, 0))) ∧ Sd (wc.heap[gb269]? = some (.cells #[.int .i64 a1_0, .int .i64 a1_1] 25 (0, 0))) ∧ Sd (Below w.heap.size w wc))
 case first =>
  have H := HC3.out
  clear HC3
  obtain ⟨t270, A6, H⟩ := bnd H
  by_cases c7 : t270 = true
  ·subst c7
   replace H := iT H
   obtain ⟨t271, A8, H⟩ := bnd H
   have H' := Sd.mk H
   clear H
   have := NB268_269.out
   have := NB269_268.out
   obtain ⟨_, _, _, _⟩ := bz BK268
   go_wp2_with (first | ((with_reducible refine gate_callee (f := 84) rfl ?_); refine goesL_ (some 7) rfl rfl Tryz.func84 (by kernel_rfl) rfl #[.agg #[.int .i64 a0_0, .int .i64 a0_1]] rfl ma ?_; (with_reducible refine (r8_num.calls a0_0 a0_1 true _ A6.out).mono ?_); rintro e w11 ⟨rfl, hb⟩; refine ⟨_, rfl, ?_⟩; replace BK268 := bkb BK268 hb; replace BK269 := bkb BK269 hb; replace HB := bsq w hb; (try clear hb); have hcz12_0 := bz0 BK269; have hcz12_1 := bz1 BK269; have hfz12_0 := blk_frozen BK269.out 0; have hfz12_1 := blk_frozen BK269.out 1) | (go_at_call 84; (with_reducible refine (r8_num.calls a1_0 a1_1 t271 _ A8.out).mono ?_); rintro e w13 ⟨rfl, hb⟩; replace BK268 := bkb BK268 hb; replace BK269 := bkb BK269 hb; replace HB := bsq w hb; (try clear hb)))
   go_meet
   case rel => exact ⟨_, (t271), ae, H', ⟨by first | omega | exact Nat.le_refl _⟩, fwK BK268, fwK BK269, ⟨bbl⟩⟩
  ·replace c7 := znf c7
   subst c7
   replace H := iF H
   have H' := Sd.mk H
   clear H
   have := NB268_269.out
   have := NB269_268.out
   obtain ⟨_, _, _, _⟩ := bz BK268
   go_wp2_with (first | ((with_reducible refine gate_callee (f := 84) rfl ?_); refine goesL_ (some 7) rfl rfl Tryz.func84 (by kernel_rfl) rfl #[.agg #[.int .i64 a0_0, .int .i64 a0_1]] rfl ma ?_; (with_reducible refine (r8_num.calls a0_0 a0_1 false _ A6.out).mono ?_); rintro e w16 ⟨rfl, hb⟩; refine ⟨_, rfl, ?_⟩; replace BK268 := bkb BK268 hb; replace BK269 := bkb BK269 hb; replace HB := bsq w hb; (try clear hb)))
   go_meet
   case rel => exact ⟨_, (false), ae, H', ⟨by first | omega | exact Nat.le_refl _⟩, fwK BK268, fwK BK269, ⟨bbl⟩⟩
 case rest =>
  clear HC3
  obtain ⟨kq, x5_2, rfl, HA, HJ2, BK268, BK269, HB⟩ := hcut
  cases kq with
  | zero => exact absurd HA.out (by simp [r8_Less.j0])
  | succ kj2 =>
   have H := HA.out
   clear HA
   simp only [r8_Less.j0] at H
   by_cases c17 : x5_2 = true
   ·subst c17
    replace H := iT H
    obtain rfl := zso H
    have := NB268_269.out
    have := NB269_268.out
    obtain ⟨_, _, _, _⟩ := bz BK268
    obtain ⟨_, _, _, _⟩ := bz BK269
    go_wp2
    go_ret
    exact ⟨fe, bbl⟩
   ·replace c17 := znf c17
    subst c17
    replace H := iF H
    by_cases c21 : a0_0 = a1_0
    ·rw [if_pos c21] at H
     have c21b0 := beq_iff_eq.mpr c21
     have c21b1 := bne_eq_false_iff_eq.mpr c21
     clear c21
     obtain rfl := zso H
     have := NB268_269.out
     have := NB269_268.out
     obtain ⟨_, _, _, _⟩ := bz BK268
     obtain ⟨_, _, _, _⟩ := bz BK269
     go_wp2
     go_ret
     exact ⟨fe, bbl⟩
    ·rw [if_neg c21] at H
     have c21b0 := beq_eq_false_iff_ne.mpr c21
     have c21b1 := bne_iff_ne.mpr c21
     by_cases c25 : a0_0 = 5
     ·rw [if_pos c25] at H
      have c25b0 := beq_iff_eq.mpr c25
      have c25b1 := bne_eq_false_iff_eq.mpr c25
      clear c25
      obtain rfl := zso H
      have := NB268_269.out
      have := NB269_268.out
      obtain ⟨_, _, _, _⟩ := bz BK268
      obtain ⟨_, _, _, _⟩ := bz BK269
      go_wp2
      go_ret
      exact ⟨fe, bbl⟩
     ·rw [if_neg c25] at H
      have c25b0 := beq_eq_false_iff_ne.mpr c25
      have c25b1 := bne_iff_ne.mpr c25
      obtain rfl := zso H
      have := NB268_269.out
      have := NB269_268.out
      obtain ⟨_, _, _, _⟩ := bz BK268
      obtain ⟨_, _, _, _⟩ := bz BK269
      go_wp2
      go_ret
      exact ⟨fe, bbl⟩
def r8_add.j0 : Nat → Bool → Int → Int → Int → Int → Option (Int × Int)
 | 0, _, _, _, _, _ => none
 | k + 1, x5, x273000, x273001, x274000, x274001 => if x5 = true then ((r8_Num.f (wrap64 (x273001 + x274001))).bind fun bt277 => (some (bt277.1, bt277.2))) else ((r8_num.f x273000 x273001).bind fun t279 => (if t279 = true then (some (x274000, x274001)) else ((r8_num.f x274000 x274001).bind fun t280 => (if t280 = true then (some (x273000, x273001)) else (if (x273000 == x274000 && (x273001 == x274001)) = true then (some (x273000, x273001)) else ((r8_NaN.f).bind fun bt281 => (some (bt281.1, bt281.2))))))))
def r8_add.f (k : Nat) (a0_0 : Int) (a0_1 : Int) (a1_0 : Int) (a1_1 : Int) : Option (Int × Int) := (r8_num.f a0_0 a0_1).bind fun t275 => (if t275 = true then ((r8_num.f a1_0 a1_1).bind fun t276 => (r8_add.j0 k t276 a0_0 a0_1 a1_0 a1_1)) else (r8_add.j0 k false a0_0 a0_1 a1_0 a1_1))
theorem r8_add.calls (k : Nat) (a0_0 : Int) (a0_1 : Int) (a1_0 : Int) (a1_1 : Int) (r1 : Int) (r2 : Int) (w : World) (h : r8_add.f k a0_0 a0_1 a1_0 a1_1 = some (r1, r2)) :
  Calls Tryz.prog 98 #[.agg #[.int .i64 a0_0, .int .i64 a0_1], .agg #[.int .i64 a1_0, .int .i64 a1_1]] w fun e w' => e = .returned (.agg #[.int .i64 r1, .int .i64 r2]) ∧ Below w.heap.size w w' := by
 have hu25 := Tryz.underlying25
 have HB := zsB w
 have H : ((r8_num.f a0_0 a0_1).bind fun t275 => (if t275 = true then ((r8_num.f a1_0 a1_1).bind fun t276 => (r8_add.j0 k t276 a0_0 a0_1 a1_0 a1_1)) else (r8_add.j0 k false a0_0 a0_1 a1_0 a1_1))) = some (r1, r2) := h
 clear h
 have HC3 := Sd.mk H
 clear H
 go_enter Tryz.func98, Tryz.ntmps98
 go_upto_region 1 with (first | ((with_reducible refine gate_dst (N := 2) rfl ?_); refine bxe (N := 2) (cs := #[.int .i64 a0_0, .int .i64 a0_1]) (t := 25) ?_; intro gb272 hg w4 hbox hb; have BK272 := Sd.mk hbox; have GW272 := bge w hg; replace HB := bsq w hb; clear hb hbox hg) | ((with_reducible refine gate_dst (N := 3) rfl ?_); refine bxe (N := 3) (cs := #[.int .i64 a1_0, .int .i64 a1_1]) (t := 25) ?_; intro gb273 hg w5 hbox hb; have BK273 := Sd.mk hbox; have GW273 := bge w hg; have NB272_273 := bnl BK272 hg; have NB273_272 := bng BK272 hg; replace BK272 := bkb BK272 hb; replace HB := bsq w hb; clear hb hbox hg) | ((with_reducible refine gate_dst (N := 4) rfl ?_); refine bxe (N := 4) (cs := #[.int .i64 0, .int .i64 0]) (t := 25) ?_; intro gb274 hg w6 hbox hb; have BK274 := Sd.mk hbox; have GW274 := bge w hg; have NB272_274 := bnl BK272 hg; have NB274_272 := bng BK272 hg; have NB273_274 := bnl BK273 hg; have NB274_273 := bng BK273 hg; replace BK272 := bkb BK272 hb; replace BK273 := bkb BK273 hb; replace HB := bsq w hb; clear hb hbox hg))
 (try simp only [Act.put, List.setIfInBounds_toArray, List.set_cons_zero, List.set_cons_succ])
 go_cut [5] (fun v5 wc => ∃ (kq : Nat) (x5_2 : Bool), v5 = .bool x5_2 ∧ Sd (r8_add.j0 kq x5_2 a0_0 a0_1 a1_0 a1_1 = some (r1, r2)) ∧ Sd (kq ≤ k) ∧ Sd (wc.heap[gb272]? = some (.cells #[.int .i64 a0_0, .int .i64 a0_1] 25 (0, 0))) ∧ Sd (wc.heap[gb273]? = some (.cells #[.int .i64 a1_0, .int .i64 a1_1] 25 (0, 0))) ∧ Sd (wc.heap[gb274]? = some (.cells #[.int .i64 0, .int .i64 0] 25 (0, 0))) ∧ Sd (Below w.heap.size w wc))
 case first =>
  have H := HC3.out
  clear HC3
  obtain ⟨t275, A7, H⟩ := bnd H
  by_cases c8 : t275 = true
  ·subst c8
   replace H := iT H
   obtain ⟨t276, A9, H⟩ := bnd H
   have H' := Sd.mk H
   clear H
   have := NB272_273.out
   have := NB273_272.out
   have := NB272_274.out
   have := NB274_272.out
   obtain ⟨_, _, _, _⟩ := bz BK272
   go_wp2_with (first | ((with_reducible refine gate_callee (f := 84) rfl ?_); refine goesL_ (some 7) rfl rfl Tryz.func84 (by kernel_rfl) rfl #[.agg #[.int .i64 a0_0, .int .i64 a0_1]] rfl ma ?_; (with_reducible refine (r8_num.calls a0_0 a0_1 true _ A7.out).mono ?_); rintro e w13 ⟨rfl, hb⟩; refine ⟨_, rfl, ?_⟩; replace BK272 := bkb BK272 hb; replace BK273 := bkb BK273 hb; replace BK274 := bkb BK274 hb; replace HB := bsq w hb; (try clear hb); have hnb14 := NB273_274.out; have hnc14 := NB274_273.out; have hcz15_0 := bz0 BK273; have hcz15_1 := bz1 BK273; have hfz15_0 := blk_frozen BK273.out 0; have hfz15_1 := blk_frozen BK273.out 1) | (go_at_call 84; (with_reducible refine (r8_num.calls a1_0 a1_1 t276 _ A9.out).mono ?_); rintro e w16 ⟨rfl, hb⟩; replace BK272 := bkb BK272 hb; replace BK273 := bkb BK273 hb; replace BK274 := bkb BK274 hb; replace HB := bsq w hb; (try clear hb)))
   go_meet
   case rel => exact ⟨_, (t276), ae, H', ⟨by first | omega | exact Nat.le_refl _⟩, fwK BK272, fwK BK273, fwK BK274, ⟨bbl⟩⟩
  ·replace c8 := znf c8
   subst c8
   replace H := iF H
   have H' := Sd.mk H
   clear H
   have := NB272_273.out
   have := NB273_272.out
   have := NB272_274.out
   have := NB274_272.out
   obtain ⟨_, _, _, _⟩ := bz BK272
   go_wp2_with (first | ((with_reducible refine gate_callee (f := 84) rfl ?_); refine goesL_ (some 7) rfl rfl Tryz.func84 (by kernel_rfl) rfl #[.agg #[.int .i64 a0_0, .int .i64 a0_1]] rfl ma ?_; (with_reducible refine (r8_num.calls a0_0 a0_1 false _ A7.out).mono ?_); rintro e w20 ⟨rfl, hb⟩; refine ⟨_, rfl, ?_⟩; replace BK272 := bkb BK272 hb; replace BK273 := bkb BK273 hb; replace BK274 := bkb BK274 hb; replace HB := bsq w hb; (try clear hb)))
   go_meet
   case rel => exact ⟨_, (false), ae, H', ⟨by first | omega | exact Nat.le_refl _⟩, fwK BK272, fwK BK273, fwK BK274, ⟨bbl⟩⟩
 case rest =>
  clear HC3
  obtain ⟨kq, x5_2, rfl, HA, HJ2, BK272, BK273, BK274, HB⟩ := hcut
  cases kq with
  | zero => exact absurd HA.out (by simp [r8_add.j0])
  | succ kj2 =>
   have H := HA.out
   clear HA
   simp only [r8_add.j0] at H
   by_cases c21 : x5_2 = true
   ·subst c21
    replace H := iT H
    obtain ⟨⟨t277, t278⟩, A22, H⟩ := bnd H
    replace H : (some (t277, t278)) = some (r1, r2) := H
    obtain ⟨rfl, rfl⟩ := zs2 H
    have := NB272_273.out
    have := NB273_272.out
    have := NB272_274.out
    have := NB274_272.out
    obtain ⟨_, _, _, _⟩ := bz BK272
    have := NB273_274.out
    have := NB274_273.out
    obtain ⟨_, _, _, _⟩ := bz BK273
    go_wp2_with (first | ((with_reducible refine gate_callee (f := 27) rfl ?_); refine goesL_ (some 17) rfl rfl Tryz.func27 (by kernel_rfl) rfl #[.int .i64 (wrap64 (a0_1 + a1_1))] rfl ma ?_; (with_reducible refine (r8_Num.calls (wrap64 (a0_1 + a1_1)) t277 t278 _ A22.out).mono ?_); rintro e w28 ⟨rfl, hb⟩; refine ⟨_, rfl, ?_⟩; replace BK272 := bkb BK272 hb; replace BK273 := bkb BK273 hb; replace BK274 := bkb BK274 hb; replace HB := bsq w hb; (try clear hb); have hcz29_0 := bz0 BK274; have hcz29_1 := bz1 BK274; have hfz29_0 := blk_frozen BK274.out 0; have hfz29_1 := blk_frozen BK274.out 1))
    refine bodyPost_ret (results_cell_row rfl _ _ gb274 25 #[.int .i64 t277, .int .i64 t278] (0, 0) _ rfl (by (repeat refine dw ?_); refine blk_put (cs := #[.int .i64 t277, .int .i64 0]) ?_ 1 _ rfl; (repeat refine dw ?_); refine blk_put (cs := #[.int .i64 0, .int .i64 0]) ?_ 0 _ rfl; (repeat refine dw ?_); exact BK274.out) Tryz.underlying25 rfl (by kernel_rfl)) rfl ?_
    exact ⟨fe, bbl⟩
   ·replace c21 := znf c21
    subst c21
    replace H := iF H
    obtain ⟨t279, A30, H⟩ := bnd H
    by_cases c31 : t279 = true
    ·subst c31
     replace H := iT H
     obtain ⟨rfl, rfl⟩ := zs2 H
     have := NB272_273.out
     have := NB273_272.out
     have := NB272_274.out
     have := NB274_272.out
     obtain ⟨_, _, _, _⟩ := bz BK272
     go_wp2_with (first | ((with_reducible refine gate_callee (f := 84) rfl ?_); refine goesL_ (some 20) rfl rfl Tryz.func84 (by kernel_rfl) rfl #[.agg #[.int .i64 a0_0, .int .i64 a0_1]] rfl ma ?_; (with_reducible refine (r8_num.calls a0_0 a0_1 true _ A30.out).mono ?_); rintro e w35 ⟨rfl, hb⟩; refine ⟨_, rfl, ?_⟩; replace BK272 := bkb BK272 hb; replace BK273 := bkb BK273 hb; replace BK274 := bkb BK274 hb; replace HB := bsq w hb; (try clear hb); have hnb36 := NB273_274.out; have hnc36 := NB274_273.out; have hcz37_0 := bz0 BK273; have hcz37_1 := bz1 BK273; have hfz37_0 := blk_frozen BK273.out 0; have hfz37_1 := blk_frozen BK273.out 1; have hcz38_0 := bz0 BK274; have hcz38_1 := bz1 BK274; have hfz38_0 := blk_frozen BK274.out 0; have hfz38_1 := blk_frozen BK274.out 1))
     refine bodyPost_ret (results_cell_row rfl _ _ gb274 25 #[.int .i64 a1_0, .int .i64 a1_1] (0, 0) _ rfl (by (repeat refine dw ?_); refine blk_put (cs := #[.int .i64 a1_0, .int .i64 0]) ?_ 1 _ rfl; (repeat refine dw ?_); refine blk_put (cs := #[.int .i64 0, .int .i64 0]) ?_ 0 _ rfl; (repeat refine dw ?_); exact BK274.out) Tryz.underlying25 rfl (by kernel_rfl)) rfl ?_
     exact ⟨fe, bbl⟩
    ·replace c31 := znf c31
     subst c31
     replace H := iF H
     obtain ⟨t280, A39, H⟩ := bnd H
     by_cases c40 : t280 = true
     ·subst c40
      replace H := iT H
      obtain ⟨rfl, rfl⟩ := zs2 H
      have := NB272_273.out
      have := NB273_272.out
      have := NB272_274.out
      have := NB274_272.out
      obtain ⟨_, _, _, _⟩ := bz BK272
      go_wp2_with (first | ((with_reducible refine gate_callee (f := 84) rfl ?_); refine goesL_ (some 20) rfl rfl Tryz.func84 (by kernel_rfl) rfl #[.agg #[.int .i64 a0_0, .int .i64 a0_1]] rfl ma ?_; (with_reducible refine (r8_num.calls a0_0 a0_1 false _ A30.out).mono ?_); rintro e w44 ⟨rfl, hb⟩; refine ⟨_, rfl, ?_⟩; replace BK272 := bkb BK272 hb; replace BK273 := bkb BK273 hb; replace BK274 := bkb BK274 hb; replace HB := bsq w hb; (try clear hb); have hnb45 := NB273_274.out; have hnc45 := NB274_273.out; have hcz46_0 := bz0 BK273; have hcz46_1 := bz1 BK273; have hfz46_0 := blk_frozen BK273.out 0; have hfz46_1 := blk_frozen BK273.out 1) | ((with_reducible refine gate_callee (f := 84) rfl ?_); refine goesL_ (some 24) rfl rfl Tryz.func84 (by kernel_rfl) rfl #[.agg #[.int .i64 a1_0, .int .i64 a1_1]] rfl ma ?_; (with_reducible refine (r8_num.calls a1_0 a1_1 true _ A39.out).mono ?_); rintro e w47 ⟨rfl, hb⟩; refine ⟨_, rfl, ?_⟩; replace BK272 := bkb BK272 hb; replace BK273 := bkb BK273 hb; replace BK274 := bkb BK274 hb; replace HB := bsq w hb; (try clear hb); have hcz48_0 := bz0 BK272; have hcz48_1 := bz1 BK272; have hfz48_0 := blk_frozen BK272.out 0; have hfz48_1 := blk_frozen BK272.out 1; have hcz49_0 := bz0 BK274; have hcz49_1 := bz1 BK274; have hfz49_0 := blk_frozen BK274.out 0; have hfz49_1 := blk_frozen BK274.out 1))
      refine bodyPost_ret (results_cell_row rfl _ _ gb274 25 #[.int .i64 a0_0, .int .i64 a0_1] (0, 0) _ rfl (by (repeat refine dw ?_); refine blk_put (cs := #[.int .i64 a0_0, .int .i64 0]) ?_ 1 _ rfl; (repeat refine dw ?_); refine blk_put (cs := #[.int .i64 0, .int .i64 0]) ?_ 0 _ rfl; (repeat refine dw ?_); exact BK274.out) Tryz.underlying25 rfl (by kernel_rfl)) rfl ?_
      exact ⟨fe, bbl⟩
     ·replace c40 := znf c40
      subst c40
      replace H := iF H
      by_cases c50 : (a0_0 == a1_0 && (a0_1 == a1_1)) = true
      ·rw [if_pos c50] at H
       have c50b0 : (a0_0 == a1_0 && (a0_1 == a1_1)) = true := c50
       (try (have c50b1 : decide (a0_0 = a1_0 && (a0_1 == a1_1)) = true := by simpa using c50))
       (try (have c50b2 : (a0_0 == a1_0 && (a0_1 == a1_1)) = true := by simpa using c50))
       clear c50
       obtain ⟨rfl, rfl⟩ := zs2 H
       have := NB272_273.out
       have := NB273_272.out
       have := NB272_274.out
       have := NB274_272.out
       obtain ⟨_, _, _, _⟩ := bz BK272
       go_wp2_with (first | ((with_reducible refine gate_callee (f := 84) rfl ?_); refine goesL_ (some 20) rfl rfl Tryz.func84 (by kernel_rfl) rfl #[.agg #[.int .i64 a0_0, .int .i64 a0_1]] rfl ma ?_; (with_reducible refine (r8_num.calls a0_0 a0_1 false _ A30.out).mono ?_); rintro e w54 ⟨rfl, hb⟩; refine ⟨_, rfl, ?_⟩; replace BK272 := bkb BK272 hb; replace BK273 := bkb BK273 hb; replace BK274 := bkb BK274 hb; replace HB := bsq w hb; (try clear hb); have hnb55 := NB273_274.out; have hnc55 := NB274_273.out; have hcz56_0 := bz0 BK273; have hcz56_1 := bz1 BK273; have hfz56_0 := blk_frozen BK273.out 0; have hfz56_1 := blk_frozen BK273.out 1) | ((with_reducible refine gate_callee (f := 84) rfl ?_); refine goesL_ (some 24) rfl rfl Tryz.func84 (by kernel_rfl) rfl #[.agg #[.int .i64 a1_0, .int .i64 a1_1]] rfl ma ?_; (with_reducible refine (r8_num.calls a1_0 a1_1 false _ A39.out).mono ?_); rintro e w57 ⟨rfl, hb⟩; refine ⟨_, rfl, ?_⟩; replace BK272 := bkb BK272 hb; replace BK273 := bkb BK273 hb; replace BK274 := bkb BK274 hb; replace HB := bsq w hb; (try clear hb); have hcz58_0 := bz0 BK272; have hcz58_1 := bz1 BK272; have hfz58_0 := blk_frozen BK272.out 0; have hfz58_1 := blk_frozen BK272.out 1; have hcz59_0 := bz0 BK273; have hcz59_1 := bz1 BK273; have hfz59_0 := blk_frozen BK273.out 0; have hfz59_1 := blk_frozen BK273.out 1; have hcz60_0 := bz0 BK274; have hcz60_1 := bz1 BK274; have hfz60_0 := blk_frozen BK274.out 0; have hfz60_1 := blk_frozen BK274.out 1))
       refine bodyPost_ret (results_cell_row rfl _ _ gb274 25 #[.int .i64 a0_0, .int .i64 a0_1] (0, 0) _ rfl (by (repeat refine dw ?_); refine blk_put (cs := #[.int .i64 a0_0, .int .i64 0]) ?_ 1 _ rfl; (repeat refine dw ?_); refine blk_put (cs := #[.int .i64 0, .int .i64 0]) ?_ 0 _ rfl; (repeat refine dw ?_); exact BK274.out) Tryz.underlying25 rfl (by kernel_rfl)) rfl ?_
       exact ⟨fe, bbl⟩
      ·rw [if_neg c50] at H
       have c50b0 : (a0_0 == a1_0 && (a0_1 == a1_1)) = false := by simpa using c50
       (try (have c50b1 : decide (a0_0 = a1_0 && (a0_1 == a1_1)) = false := by simpa using c50))
       (try (have c50b2 : (a0_0 == a1_0 && (a0_1 == a1_1)) = false := by simpa using c50))
       (try (have c50b3 : ¬ (a0_0 = a1_0 && (a0_1 == a1_1)) := by simpa using c50))
       clear c50
       obtain ⟨⟨t281, t282⟩, A61, H⟩ := bnd H
       replace H : (some (t281, t282)) = some (r1, r2) := H
       obtain ⟨rfl, rfl⟩ := zs2 H
       have := NB272_273.out
       have := NB273_272.out
       have := NB272_274.out
       have := NB274_272.out
       obtain ⟨_, _, _, _⟩ := bz BK272
       go_wp2_with (first | ((with_reducible refine gate_callee (f := 84) rfl ?_); refine goesL_ (some 20) rfl rfl Tryz.func84 (by kernel_rfl) rfl #[.agg #[.int .i64 a0_0, .int .i64 a0_1]] rfl ma ?_; (with_reducible refine (r8_num.calls a0_0 a0_1 false _ A30.out).mono ?_); rintro e w65 ⟨rfl, hb⟩; refine ⟨_, rfl, ?_⟩; replace BK272 := bkb BK272 hb; replace BK273 := bkb BK273 hb; replace BK274 := bkb BK274 hb; replace HB := bsq w hb; (try clear hb); have hnb66 := NB273_274.out; have hnc66 := NB274_273.out; have hcz67_0 := bz0 BK273; have hcz67_1 := bz1 BK273; have hfz67_0 := blk_frozen BK273.out 0; have hfz67_1 := blk_frozen BK273.out 1) | ((with_reducible refine gate_callee (f := 84) rfl ?_); refine goesL_ (some 24) rfl rfl Tryz.func84 (by kernel_rfl) rfl #[.agg #[.int .i64 a1_0, .int .i64 a1_1]] rfl ma ?_; (with_reducible refine (r8_num.calls a1_0 a1_1 false _ A39.out).mono ?_); rintro e w68 ⟨rfl, hb⟩; refine ⟨_, rfl, ?_⟩; replace BK272 := bkb BK272 hb; replace BK273 := bkb BK273 hb; replace BK274 := bkb BK274 hb; replace HB := bsq w hb; (try clear hb); have hcz69_0 := bz0 BK272; have hcz69_1 := bz1 BK272; have hfz69_0 := blk_frozen BK272.out 0; have hfz69_1 := blk_frozen BK272.out 1; have hcz70_0 := bz0 BK273; have hcz70_1 := bz1 BK273; have hfz70_0 := blk_frozen BK273.out 0; have hfz70_1 := blk_frozen BK273.out 1) | ((with_reducible refine gate_callee (f := 29) rfl ?_); refine goesL_ (some 31) rfl rfl Tryz.func29 (by kernel_rfl) rfl #[] rfl ma ?_; (with_reducible refine (r8_NaN.calls  t281 t282 _ A61.out).mono ?_); rintro e w71 ⟨rfl, hb⟩; refine ⟨_, rfl, ?_⟩; replace BK272 := bkb BK272 hb; replace BK273 := bkb BK273 hb; replace BK274 := bkb BK274 hb; replace HB := bsq w hb; (try clear hb); have hcz72_0 := bz0 BK274; have hcz72_1 := bz1 BK274; have hfz72_0 := blk_frozen BK274.out 0; have hfz72_1 := blk_frozen BK274.out 1))
       refine bodyPost_ret (results_cell_row rfl _ _ gb274 25 #[.int .i64 t281, .int .i64 t282] (0, 0) _ rfl (by (repeat refine dw ?_); refine blk_put (cs := #[.int .i64 t281, .int .i64 0]) ?_ 1 _ rfl; (repeat refine dw ?_); refine blk_put (cs := #[.int .i64 0, .int .i64 0]) ?_ 0 _ rfl; (repeat refine dw ?_); exact BK274.out) Tryz.underlying25 rfl (by kernel_rfl)) rfl ?_
       exact ⟨fe, bbl⟩
def r8_beyond.f (a0 : Int) : Option (Int × Int) := if a0 > 0 then ((r8_Plus.f).bind fun bt284 => (some (bt284.1, bt284.2))) else (if a0 < 0 then ((r8_Minus.f).bind fun bt286 => (some (bt286.1, bt286.2))) else ((r8_NaN.f).bind fun bt288 => (some (bt288.1, bt288.2))))
theorem r8_beyond.calls (a0 : Int) (r1 : Int) (r2 : Int) (w : World) (h : r8_beyond.f a0 = some (r1, r2)) :
  Calls Tryz.prog 148 #[.int .i64 a0] w fun e w' => e = .returned (.agg #[.int .i64 r1, .int .i64 r2]) ∧ Below w.heap.size w w' := by
 have hu25 := Tryz.underlying25
 have HB := zsB w
 have H : (if a0 > 0 then ((r8_Plus.f).bind fun bt284 => (some (bt284.1, bt284.2))) else (if a0 < 0 then ((r8_Minus.f).bind fun bt286 => (some (bt286.1, bt286.2))) else ((r8_NaN.f).bind fun bt288 => (some (bt288.1, bt288.2))))) = some (r1, r2) := h
 clear h
 by_cases c2 : a0 > 0
 ·rw [if_pos c2] at H
  have c2b0 : decide (0 < a0) = true := decide_eq_true c2
  clear c2
  obtain ⟨⟨t284, t285⟩, A3, H⟩ := bnd H
  replace H : (some (t284, t285)) = some (r1, r2) := H
  obtain ⟨rfl, rfl⟩ := zs2 H
  go_enter Tryz.func148, Tryz.ntmps148
  go_wp2_with (first | ((with_reducible refine gate_dst (N := 2) rfl ?_); refine bxe (N := 2) (cs := #[.int .i64 0, .int .i64 0]) (t := 25) ?_; intro gb283 hg w4 hbox hb; have BK283 := Sd.mk hbox; have GW283 := bge w hg; have GE283 := bge w hg; replace HB := bsq w hb; clear hb hbox hg) | ((with_reducible refine gate_callee (f := 69) rfl ?_); refine goesL_ (some 6) rfl rfl Tryz.func69 (by kernel_rfl) rfl #[] rfl ma ?_; (with_reducible refine (r8_Plus.calls  t284 t285 _ A3.out).mono ?_); rintro e w5 ⟨rfl, hb⟩; refine ⟨_, rfl, ?_⟩; replace BK283 := bkb BK283 hb; replace HB := bsq w hb; (try clear hb); have hcz6_0 := bz0 BK283; have hcz6_1 := bz1 BK283; have hfz6_0 := blk_frozen BK283.out 0; have hfz6_1 := blk_frozen BK283.out 1))
  refine bodyPost_ret (results_cell_row rfl _ _ gb283 25 #[.int .i64 t284, .int .i64 t285] (0, 0) _ rfl (by (repeat refine dw ?_); refine blk_put (cs := #[.int .i64 t284, .int .i64 0]) ?_ 1 _ rfl; (repeat refine dw ?_); refine blk_put (cs := #[.int .i64 0, .int .i64 0]) ?_ 0 _ rfl; (repeat refine dw ?_); exact BK283.out) Tryz.underlying25 rfl (by kernel_rfl)) rfl ?_
  exact ⟨fe, bbl⟩
 ·rw [if_neg c2] at H
  have c2b0 : decide (0 < a0) = false := decide_eq_false c2
  clear c2
  by_cases c7 : a0 < 0
  ·rw [if_pos c7] at H
   have c7b0 : decide (a0 < 0) = true := decide_eq_true c7
   clear c7
   obtain ⟨⟨t286, t287⟩, A8, H⟩ := bnd H
   replace H : (some (t286, t287)) = some (r1, r2) := H
   obtain ⟨rfl, rfl⟩ := zs2 H
   go_enter Tryz.func148, Tryz.ntmps148
   go_wp2_with (first | ((with_reducible refine gate_dst (N := 2) rfl ?_); refine bxe (N := 2) (cs := #[.int .i64 0, .int .i64 0]) (t := 25) ?_; intro gb283 hg w9 hbox hb; have BK283 := Sd.mk hbox; have GW283 := bge w hg; have GE283 := bge w hg; replace HB := bsq w hb; clear hb hbox hg) | ((with_reducible refine gate_callee (f := 70) rfl ?_); refine goesL_ (some 10) rfl rfl Tryz.func70 (by kernel_rfl) rfl #[] rfl ma ?_; (with_reducible refine (r8_Minus.calls  t286 t287 _ A8.out).mono ?_); rintro e w10 ⟨rfl, hb⟩; refine ⟨_, rfl, ?_⟩; replace BK283 := bkb BK283 hb; replace HB := bsq w hb; (try clear hb); have hcz11_0 := bz0 BK283; have hcz11_1 := bz1 BK283; have hfz11_0 := blk_frozen BK283.out 0; have hfz11_1 := blk_frozen BK283.out 1))
   refine bodyPost_ret (results_cell_row rfl _ _ gb283 25 #[.int .i64 t286, .int .i64 t287] (0, 0) _ rfl (by (repeat refine dw ?_); refine blk_put (cs := #[.int .i64 t286, .int .i64 0]) ?_ 1 _ rfl; (repeat refine dw ?_); refine blk_put (cs := #[.int .i64 0, .int .i64 0]) ?_ 0 _ rfl; (repeat refine dw ?_); exact BK283.out) Tryz.underlying25 rfl (by kernel_rfl)) rfl ?_
   exact ⟨fe, bbl⟩
  ·rw [if_neg c7] at H
   have c7b0 : decide (a0 < 0) = false := decide_eq_false c7
   clear c7
   obtain ⟨⟨t288, t289⟩, A12, H⟩ := bnd H
   replace H : (some (t288, t289)) = some (r1, r2) := H
   obtain ⟨rfl, rfl⟩ := zs2 H
   go_enter Tryz.func148, Tryz.ntmps148
   go_wp2_with (first | ((with_reducible refine gate_dst (N := 2) rfl ?_); refine bxe (N := 2) (cs := #[.int .i64 0, .int .i64 0]) (t := 25) ?_; intro gb283 hg w13 hbox hb; have BK283 := Sd.mk hbox; have GW283 := bge w hg; have GE283 := bge w hg; replace HB := bsq w hb; clear hb hbox hg) | ((with_reducible refine gate_callee (f := 29) rfl ?_); refine goesL_ (some 11) rfl rfl Tryz.func29 (by kernel_rfl) rfl #[] rfl ma ?_; (with_reducible refine (r8_NaN.calls  t288 t289 _ A12.out).mono ?_); rintro e w14 ⟨rfl, hb⟩; refine ⟨_, rfl, ?_⟩; replace BK283 := bkb BK283 hb; replace HB := bsq w hb; (try clear hb); have hcz15_0 := bz0 BK283; have hcz15_1 := bz1 BK283; have hfz15_0 := blk_frozen BK283.out 0; have hfz15_1 := blk_frozen BK283.out 1))
   refine bodyPost_ret (results_cell_row rfl _ _ gb283 25 #[.int .i64 t288, .int .i64 t289] (0, 0) _ rfl (by (repeat refine dw ?_); refine blk_put (cs := #[.int .i64 t288, .int .i64 0]) ?_ 1 _ rfl; (repeat refine dw ?_); refine blk_put (cs := #[.int .i64 0, .int .i64 0]) ?_ 0 _ rfl; (repeat refine dw ?_); exact BK283.out) Tryz.underlying25 rfl (by kernel_rfl)) rfl ?_
   exact ⟨fe, bbl⟩
def r8_size.f (a0 : Int) : Option (Int) := if a0 < 0 then (some (wrap64 (-a0))) else (some a0)
theorem r8_size.calls (a0 : Int) (r : Int) (w : World) (h : r8_size.f a0 = some r) :
  Calls Tryz.prog 149 #[.int .i64 a0] w fun e w' => e = .returned (.int .i64 r) ∧ Drawn0 w w' := by
 have H : (if a0 < 0 then (some (wrap64 (-a0))) else (some a0)) = some r := h
 clear h
 by_cases c2 : a0 < 0
 ·rw [if_pos c2] at H
  have c2b0 : decide (a0 < 0) = true := decide_eq_true c2
  clear c2
  obtain rfl := zso H
  go_enter Tryz.func149, Tryz.ntmps149
  go_wp2
  go_ret
  exact ⟨ae, zdr⟩
 ·rw [if_neg c2] at H
  have c2b0 : decide (a0 < 0) = false := decide_eq_false c2
  clear c2
  obtain rfl := zso H
  go_enter Tryz.func149, Tryz.ntmps149
  go_wp2
  go_ret
  exact ⟨ae, zdr⟩
mutual
def r8_times.j0 : Nat → Int → Bool → Int → Int → Int → Int → Option (Int × Int)
 | 0, _, _, _, _, _, _ => none
 | k + 1, x5, x22, x291000, x291001, x292000, x292001 => if x22 = true then ((r8_beyond.f x5).bind fun bt297 => (some (bt297.1, bt297.2))) else ((r8_size.f x291001).bind fun t299 => ((r8_size.f x292001).bind fun t300 => (if (wrap64 (Int.tdiv t299 1000)) > 0 then (if (wrap64 (Int.tdiv t299 1000)) = 0 then (none) else (r8_times.j1 k x5 t300 (wrap64 (Int.tdiv t299 1000)) (Int.tmod t299 1000) (decide (t300 > (wrap64 ((1000000000000000 : Int) / (wrap64 (Int.tdiv t299 1000)))))))) else (r8_times.j1 k x5 t300 (wrap64 (Int.tdiv t299 1000)) (Int.tmod t299 1000) false))))
def r8_times.j1 : Nat → Int → Int → Int → Int → Bool → Option (Int × Int)
 | 0, _, _, _, _, _ => none
 | k + 1, x5, x7, x8, x9, x42 => if x42 = true then ((r8_beyond.f x5).bind fun bt301 => (some (bt301.1, bt301.2))) else ((r8_Num.f (wrap64 (x5 * (wrap64 ((wrap64 (x8 * x7)) + (wrap64 (Int.tdiv (wrap64 (x9 * x7)) 1000))))))).bind fun bt303 => (some (bt303.1, bt303.2)))
end
def r8_times.f (k : Nat) (a0_0 : Int) (a0_1 : Int) (a1_0 : Int) (a1_1 : Int) : Option (Int × Int) := (r8_sign.f k a0_0 a0_1).bind fun t293 => ((r8_sign.f k a1_0 a1_1).bind fun t294 => ((r8_num.f a0_0 a0_1).bind fun t295 => (if t295 = true then ((r8_num.f a1_0 a1_1).bind fun t296 => (r8_times.j0 k (wrap64 (t293 * t294)) (!t296) a0_0 a0_1 a1_0 a1_1)) else (r8_times.j0 k (wrap64 (t293 * t294)) true a0_0 a0_1 a1_0 a1_1))))
def r8_times.T4 : Bool × List (List Nat × List Nat) := (true, [([], []), ([0], [0]), ([1], [1]), ([], []), ([3], [3]), ([4, 2], [4]), ([2, 5, 0, 1, 2], [2]), ([5, 6, 0, 1, 2, 3, 4, 5, 6], [5])])
def r8_times.B4 : List Nat := [0, 1, 3, 0, 8, 31, 63, 127]
theorem r8_times.tab4 : rtab .any (opsOf Tryz.f99 4) = r8_times.T4 := by kernel_rfl
theorem r8_times.bits4 : waitsOk r8_times.T4.2 r8_times.B4 = true := by kernel_rfl
theorem r8_times.calls (k : Nat) (a0_0 : Int) (a0_1 : Int) (a1_0 : Int) (a1_1 : Int) (r1 : Int) (r2 : Int) (w : World) (h : r8_times.f k a0_0 a0_1 a1_0 a1_1 = some (r1, r2)) :
  Calls Tryz.prog 99 #[.agg #[.int .i64 a0_0, .int .i64 a0_1], .agg #[.int .i64 a1_0, .int .i64 a1_1]] w fun e w' => e = .returned (.agg #[.int .i64 r1, .int .i64 r2]) ∧ Below w.heap.size w w' := by
 have hu25 := Tryz.underlying25
 have HB := zsB w
 have H : ((r8_sign.f k a0_0 a0_1).bind fun t293 => ((r8_sign.f k a1_0 a1_1).bind fun t294 => ((r8_num.f a0_0 a0_1).bind fun t295 => (if t295 = true then ((r8_num.f a1_0 a1_1).bind fun t296 => (r8_times.j0 k (wrap64 (t293 * t294)) (!t296) a0_0 a0_1 a1_0 a1_1)) else (r8_times.j0 k (wrap64 (t293 * t294)) true a0_0 a0_1 a1_0 a1_1))))) = some (r1, r2) := h
 clear h
 obtain ⟨t293, A3, H⟩ := bnd H
 obtain ⟨t294, A4, H⟩ := bnd H
 have HC5 := Sd.mk H
 clear H
 go_enter Tryz.func99, Tryz.ntmps99
 try go_wp2_with (first | ((with_reducible refine gate_dst (N := 2) rfl ?_); refine bxe (N := 2) (cs := #[.int .i64 a0_0, .int .i64 a0_1]) (t := 25) ?_; intro gb290 hg w6 hbox hb; have BK290 := Sd.mk hbox; have GW290 := bge w hg; replace HB := bsq w hb; clear hb hbox hg) | ((with_reducible refine gate_dst (N := 3) rfl ?_); refine bxe (N := 3) (cs := #[.int .i64 a1_0, .int .i64 a1_1]) (t := 25) ?_; intro gb291 hg w7 hbox hb; have BK291 := Sd.mk hbox; have GW291 := bge w hg; have NB290_291 := bnl BK290 hg; have NB291_290 := bng BK290 hg; replace BK290 := bkb BK290 hb; replace HB := bsq w hb; clear hb hbox hg) | ((with_reducible refine gate_dst (N := 4) rfl ?_); refine bxe (N := 4) (cs := #[.int .i64 0, .int .i64 0]) (t := 25) ?_; intro gb292 hg w8 hbox hb; have BK292 := Sd.mk hbox; have GW292 := bge w hg; have NB290_292 := bnl BK290 hg; have NB292_290 := bng BK290 hg; have NB291_292 := bnl BK291 hg; have NB292_291 := bng BK291 hg; replace BK290 := bkb BK290 hb; replace BK291 := bkb BK291 hb; replace HB := bsq w hb; clear hb hbox hg))
 replace BK290 := Sd.mk (blk_drew BK290.out)
 replace BK291 := Sd.mk (blk_drew BK291.out)
 replace BK292 := Sd.mk (blk_drew BK292.out)
 replace HB := Sd.mk (bd1 HB.out)
 refine start_ (n := 6) (S := fun w' => w'.cell? ⟨gb290, 0, none⟩ = some (.int .i64 a0_0) ∧ w'.cell? ⟨gb290, 1, none⟩ = some (.int .i64 a0_1) ∧ w'.cell? ⟨gb291, 0, none⟩ = some (.int .i64 a1_0) ∧ w'.cell? ⟨gb291, 1, none⟩ = some (.int .i64 a1_1)) (ds := []) #[false, false, false, false, false, false] (by kernel_rfl) rfl rfl ⟨(blk_cell BK290.out 0).trans rfl, (blk_cell BK290.out 1).trans rfl, (blk_cell BK291.out 0).trans rfl, (blk_cell BK291.out 1).trans rfl⟩ (fun hHeld => ?_)
 generalize w8.drew = w9 at BK290 BK291 BK292 HB hHeld ⊢
 refine take_ (i := 0) (N := some 10) (v := ?_) (a' := ?_) #[true, false, false, false, false, false] rfl rfl (by kernel_rfl) (fun _ _ _ h => h) (Or.inl ⟨by rfl, ?_⟩) hHeld ?_ ?_
 rotate_left
 ·rintro w' ⟨s0, s1, s2, s3⟩
  go_simp
  with_reducible rfl
 rotate_left
 ·simp only [zpz]
  rfl
 refine take_ (i := 2) (N := some 12) (v := ?_) (a' := ?_) #[true, false, true, false, false, false] rfl rfl (by kernel_rfl) (fun _ _ _ h => h) (Or.inl ⟨by rfl, ?_⟩) hHeld ?_ ?_
 rotate_left
 ·rintro w' ⟨s0, s1, s2, s3⟩
  go_simp
  with_reducible rfl
 rotate_left
 ·simp only [zpz]
  rfl
 refine one_ (i := 1) (N := some 11) #[true, true, true, false, false, false] rfl rfl (by kernel_rfl) (by decide) (fun K hK => ?_)
 refine goes_ Tryz.func96 (by kernel_rfl) rfl #[.agg #[.int .i64 a0_0, .int .i64 a0_1]] (by rfl) rfl rfl ma ?_
 with_reducible refine (r8_sign.calls k a0_0 a0_1 t293 _ A3.out).mono ?_
 rintro e w10 ⟨rfl, hb⟩
 refine ⟨_, rfl, ?_⟩
 replace BK290 := bkb BK290 hb
 replace BK291 := bkb BK291 hb
 replace BK292 := bkb BK292 hb
 replace HB := bsq w hb
 (try clear hb)
 refine hK.out _ _ ⟨(blk_cell BK290.out 0).trans rfl, (blk_cell BK290.out 1).trans rfl, (blk_cell BK291.out 0).trans rfl, (blk_cell BK291.out 1).trans rfl⟩ (fun hHeld => ?_)
 clear hK K
 refine norm_ (a' := ?_) ?_ ?_
 rotate_left
 ·show Act.put _ (some 11) _ = _
  simp only [zpz]
  rfl
 refine one_ (i := 3) (N := some 13) #[true, true, true, true, false, false] rfl rfl (by kernel_rfl) (by decide) (fun K hK => ?_)
 refine goes_ Tryz.func96 (by kernel_rfl) rfl #[.agg #[.int .i64 a1_0, .int .i64 a1_1]] (by rfl) rfl rfl ma ?_
 with_reducible refine (r8_sign.calls k a1_0 a1_1 t294 _ A4.out).mono ?_
 rintro e w11 ⟨rfl, hb⟩
 refine ⟨_, rfl, ?_⟩
 replace BK290 := bkb BK290 hb
 replace BK291 := bkb BK291 hb
 replace BK292 := bkb BK292 hb
 replace HB := bsq w hb
 (try clear hb)
 refine hK.out _ _ ⟨(blk_cell BK290.out 0).trans rfl, (blk_cell BK290.out 1).trans rfl, (blk_cell BK291.out 0).trans rfl, (blk_cell BK291.out 1).trans rfl⟩ (fun hHeld => ?_)
 clear hK K
 refine norm_ (a' := ?_) ?_ ?_
 rotate_left
 ·show Act.put _ (some 13) _ = _
  simp only [zpz]
  rfl
 refine pure_ (i := 4) (N := some 14) (v := ?_) (a' := ?_) #[true, true, true, true, true, false] rfl rfl (by kernel_rfl) (fun _ _ _ h => h) (Or.inl ⟨by rfl, ?_⟩) ?_ ?_
 rotate_left
 ·intro w'
  go_simp
  with_reducible rfl
 rotate_left
 ·simp only [zpz]
  rfl
 refine pure_ (i := 5) (N := some 5) (v := ?_) (a' := ?_) #[true, true, true, true, true, true] rfl rfl (by kernel_rfl) (fun _ _ _ h => h) (Or.inl ⟨by rfl, ?_⟩) ?_ ?_
 rotate_left
 ·intro w'
  go_simp
  with_reducible rfl
 rotate_left
 ·simp only [zpz]
  rfl
 refine done_ (by kernel_rfl) ?_
 go_upto_region 2 with (fail)
 go_cut [22] (fun v22 wc => ∃ (kq : Nat) (x22_4 : Bool), v22 = .bool x22_4 ∧ Sd (r8_times.j0 kq (wrap64 (t293 * t294)) x22_4 a0_0 a0_1 a1_0 a1_1 = some (r1, r2)) ∧ Sd (kq ≤ k) ∧ Sd (wc.heap[gb290]? = some (.cells #[.int .i64 a0_0, .int .i64 a0_1] 25 (0, 0))) ∧ Sd (wc.heap[gb291]? = some (.cells #[.int .i64 a1_0, .int .i64 a1_1] 25 (0, 0))) ∧ Sd (wc.heap[gb292]? = some (.cells #[.int .i64 0, .int .i64 0] 25 (0, 0))) ∧ Sd (Below w.heap.size w wc))
 case first =>
  have H := HC5.out
  clear HC5
  obtain ⟨t295, A12, H⟩ := bnd H
  by_cases c13 : t295 = true
  ·subst c13
   replace H := iT H
   obtain ⟨t296, A14, H⟩ := bnd H
   have H' := Sd.mk H
   clear H
   have := NB290_291.out
   have := NB291_290.out
   have := NB290_292.out
   have := NB292_290.out
   obtain ⟨_, _, _, _⟩ := bz BK290
   go_wp2_with (first | ((with_reducible refine gate_callee (f := 84) rfl ?_); refine goesL_ (some 16) rfl rfl Tryz.func84 (by kernel_rfl) rfl #[.agg #[.int .i64 a0_0, .int .i64 a0_1]] rfl ma ?_; (with_reducible refine (r8_num.calls a0_0 a0_1 true _ A12.out).mono ?_); rintro e w18 ⟨rfl, hb⟩; refine ⟨_, rfl, ?_⟩; replace BK290 := bkb BK290 hb; replace BK291 := bkb BK291 hb; replace BK292 := bkb BK292 hb; replace HB := bsq w hb; (try clear hb); have hnb19 := NB291_292.out; have hnc19 := NB292_291.out; have hcz20_0 := bz0 BK291; have hcz20_1 := bz1 BK291; have hfz20_0 := blk_frozen BK291.out 0; have hfz20_1 := blk_frozen BK291.out 1) | (go_at_call 84; (with_reducible refine (r8_num.calls a1_0 a1_1 t296 _ A14.out).mono ?_); rintro e w21 ⟨rfl, hb⟩; replace BK290 := bkb BK290 hb; replace BK291 := bkb BK291 hb; replace BK292 := bkb BK292 hb; replace HB := bsq w hb; (try clear hb)))
   go_meet
   case rel => exact ⟨_, (!t296), ae, H', ⟨by first | omega | exact Nat.le_refl _⟩, fwK BK290, fwK BK291, fwK BK292, ⟨bbl⟩⟩
  ·replace c13 := znf c13
   subst c13
   replace H := iF H
   have H' := Sd.mk H
   clear H
   have := NB290_291.out
   have := NB291_290.out
   have := NB290_292.out
   have := NB292_290.out
   obtain ⟨_, _, _, _⟩ := bz BK290
   go_wp2_with (first | ((with_reducible refine gate_callee (f := 84) rfl ?_); refine goesL_ (some 16) rfl rfl Tryz.func84 (by kernel_rfl) rfl #[.agg #[.int .i64 a0_0, .int .i64 a0_1]] rfl ma ?_; (with_reducible refine (r8_num.calls a0_0 a0_1 false _ A12.out).mono ?_); rintro e w25 ⟨rfl, hb⟩; refine ⟨_, rfl, ?_⟩; replace BK290 := bkb BK290 hb; replace BK291 := bkb BK291 hb; replace BK292 := bkb BK292 hb; replace HB := bsq w hb; (try clear hb)))
   go_meet
   case rel => exact ⟨_, (true), ae, H', ⟨by first | omega | exact Nat.le_refl _⟩, fwK BK290, fwK BK291, fwK BK292, ⟨bbl⟩⟩
 case rest =>
  clear HC5
  obtain ⟨kq, x22_4, rfl, HA, HJ4, BK290, BK291, BK292, HB⟩ := hcut
  cases kq with
  | zero => exact absurd HA.out (by simp [r8_times.j0])
  | succ kj4 =>
   have H := HA.out
   clear HA
   simp only [r8_times.j0] at H
   by_cases c26 : x22_4 = true
   ·subst c26
    replace H := iT H
    obtain ⟨⟨t297, t298⟩, A27, H⟩ := bnd H
    replace H : (some (t297, t298)) = some (r1, r2) := H
    obtain ⟨rfl, rfl⟩ := zs2 H
    go_wp2_with (first | ((with_reducible refine gate_callee (f := 148) rfl ?_); refine goesL_ (some 24) rfl rfl Tryz.func148 (by kernel_rfl) rfl #[.int .i64 (wrap64 (t293 * t294))] rfl ma ?_; (with_reducible refine (r8_beyond.calls (wrap64 (t293 * t294)) t297 t298 _ A27.out).mono ?_); rintro e w28 ⟨rfl, hb⟩; refine ⟨_, rfl, ?_⟩; replace BK290 := bkb BK290 hb; replace BK291 := bkb BK291 hb; replace BK292 := bkb BK292 hb; replace HB := bsq w hb; (try clear hb); have hnb29 := NB292_290.out; have hnc29 := NB290_292.out; have hnb30 := NB292_291.out; have hnc30 := NB291_292.out; have hcz31_0 := bz0 BK292; have hcz31_1 := bz1 BK292; have hfz31_0 := blk_frozen BK292.out 0; have hfz31_1 := blk_frozen BK292.out 1))
    refine bodyPost_ret (results_cell_row rfl _ _ gb292 25 #[.int .i64 t297, .int .i64 t298] (0, 0) _ rfl (by (repeat refine dw ?_); refine blk_put (cs := #[.int .i64 t297, .int .i64 0]) ?_ 1 _ rfl; (repeat refine dw ?_); refine blk_put (cs := #[.int .i64 0, .int .i64 0]) ?_ 0 _ rfl; (repeat refine dw ?_); exact BK292.out) Tryz.underlying25 rfl (by kernel_rfl)) rfl ?_
    exact ⟨fe, bbl⟩
   ·replace c26 := znf c26
    subst c26
    replace H := iF H
    obtain ⟨t299, A32, H⟩ := bnd H
    obtain ⟨t300, A33, H⟩ := bnd H
    have HC34 := Sd.mk H
    clear H
    try go_wp2
    replace BK290 := Sd.mk (blk_drew BK290.out)
    replace BK291 := Sd.mk (blk_drew BK291.out)
    replace BK292 := Sd.mk (blk_drew BK292.out)
    replace HB := Sd.mk (bd1 HB.out)
    refine start_ (n := 8) (S := fun w' => w'.cell? ⟨gb290, 0, none⟩ = some (.int .i64 a0_0) ∧ w'.cell? ⟨gb290, 1, none⟩ = some (.int .i64 a0_1) ∧ w'.cell? ⟨gb291, 0, none⟩ = some (.int .i64 a1_0) ∧ w'.cell? ⟨gb291, 1, none⟩ = some (.int .i64 a1_1)) (ds := []) #[false, false, false, false, false, false, false, false] (by kernel_rfl) rfl rfl ⟨(blk_cell BK290.out 0).trans rfl, (blk_cell BK290.out 1).trans rfl, (blk_cell BK291.out 0).trans rfl, (blk_cell BK291.out 1).trans rfl⟩ (fun hHeld => ?_); refine with_tabW r8_times.tab4 r8_times.bits4 (fun HT_ HW_ => ?_)
    generalize wc.drew = w35 at BK290 BK291 BK292 HB hHeld ⊢
    refine pure_ (i := 0) (N := some 25) (v := ?_) (a' := ?_) #[true, false, false, false, false, false, false, false] rfl rfl (any_of HT_.out (by kernel_rfl)) (fun _ _ _ h => h) (Or.inl ⟨by rfl, ?_⟩) ?_ ?_
    rotate_left
    ·intro w'
     go_simp
     with_reducible rfl
    rotate_left
    ·simp only [zpz]
     rfl
    refine pure_ (i := 3) (N := some 28) (v := ?_) (a' := ?_) #[true, false, false, true, false, false, false, false] rfl rfl (any_of HT_.out (by kernel_rfl)) (fun _ _ _ h => h) (Or.inl ⟨by rfl, ?_⟩) ?_ ?_
    rotate_left
    ·intro w'
     go_simp
     with_reducible rfl
    rotate_left
    ·simp only [zpz]
     rfl
    refine take_ (i := 1) (N := some 26) (v := ?_) (a' := ?_) #[true, true, false, true, false, false, false, false] rfl rfl (take_ofW HT_.out HW_.out (by kernel_rfl)) (fun _ _ _ h => h) (Or.inl ⟨by rfl, ?_⟩) hHeld ?_ ?_
    rotate_left
    ·rintro w' ⟨s0, s1, s2, s3⟩
     go_simp
     with_reducible rfl
    rotate_left
    ·simp only [zpz]
     rfl
    refine take_ (i := 4) (N := some 29) (v := ?_) (a' := ?_) #[true, true, false, true, true, false, false, false] rfl rfl (take_ofW HT_.out HW_.out (by kernel_rfl)) (fun _ _ _ h => h) (Or.inl ⟨by rfl, ?_⟩) hHeld ?_ ?_
    rotate_left
    ·rintro w' ⟨s0, s1, s2, s3⟩
     go_simp
     with_reducible rfl
    rotate_left
    ·simp only [zpz]
     rfl
    refine one_ (i := 2) (N := some 27) #[true, true, true, true, true, false, false, false] rfl rfl (one_of HT_.out (by kernel_rfl)) (by decide) (fun K hK => ?_)
    refine goes_ Tryz.func149 (by kernel_rfl) rfl #[.int .i64 a0_1] (by rfl) rfl rfl ma ?_
    with_reducible refine (r8_size.calls a0_1 t299 _ A32.out).mono ?_
    rintro e w' ⟨rfl, ⟨nd, rfl⟩⟩
    refine ⟨_, rfl, ?_⟩
    refine hK.out _ _ ⟨(blk_cell BK290.out 0).trans rfl, (blk_cell BK290.out 1).trans rfl, (blk_cell BK291.out 0).trans rfl, (blk_cell BK291.out 1).trans rfl⟩ (fun hHeld => ?_)
    clear hK K
    refine norm_ (a' := ?_) ?_ ?_
    rotate_left
    ·show Act.put _ (some 27) _ = _
     simp only [zpz]
     rfl
    refine one_ (i := 5) (N := some 30) #[true, true, true, true, true, true, false, false] rfl rfl (one_of HT_.out (by kernel_rfl)) (by decide) (fun K hK => ?_)
    refine goes_ Tryz.func149 (by kernel_rfl) rfl #[.int .i64 a1_1] (by rfl) rfl rfl ma ?_
    with_reducible refine (r8_size.calls a1_1 t300 _ A33.out).mono ?_
    rintro e w' ⟨rfl, ⟨nd, rfl⟩⟩
    refine ⟨_, rfl, ?_⟩
    refine hK.out _ _ ⟨(blk_cell BK290.out 0).trans rfl, (blk_cell BK290.out 1).trans rfl, (blk_cell BK291.out 0).trans rfl, (blk_cell BK291.out 1).trans rfl⟩ (fun hHeld => ?_)
    clear hK K
    refine norm_ (a' := ?_) ?_ ?_
    rotate_left
    ·show Act.put _ (some 30) _ = _
     simp only [zpz]
     rfl
    refine pure_ (i := 6) (N := some 6) (v := ?_) (a' := ?_) #[true, true, true, true, true, true, true, false] rfl rfl (any_of HT_.out (by kernel_rfl)) (fun _ _ _ h => h) (Or.inl ⟨by rfl, ?_⟩) ?_ ?_
    rotate_left
    ·intro w'
     go_simp
     with_reducible rfl
    rotate_left
    ·simp only [zpz]
     rfl
    refine pure_ (i := 7) (N := some 7) (v := ?_) (a' := ?_) #[true, true, true, true, true, true, true, true] rfl rfl (any_of HT_.out (by kernel_rfl)) (fun _ _ _ h => h) (Or.inl ⟨by rfl, ?_⟩) ?_ ?_
    rotate_left
    ·intro w'
     go_simp
     with_reducible rfl
    rotate_left
    ·simp only [zpz]
     rfl
    refine done_ (done_of HT_.out (by kernel_rfl)) ?_
    go_upto_region 6 with (fail)
    go_cut [42] (fun v42 wc => ∃ (kq : Nat) (x42_33 : Bool), v42 = .bool x42_33 ∧ Sd (r8_times.j1 kq (wrap64 (t293 * t294)) t300 (wrap64 (Int.tdiv t299 1000)) (Int.tmod t299 1000) x42_33 = some (r1, r2)) ∧ Sd (kq ≤ kj4) ∧ Sd (wc.heap[gb290]? = some (.cells #[.int .i64 a0_0, .int .i64 a0_1] 25 (0, 0))) ∧ Sd (wc.heap[gb291]? = some (.cells #[.int .i64 a1_0, .int .i64 a1_1] 25 (0, 0))) ∧ Sd (wc.heap[gb292]? = some (.cells #[.int .i64 0, .int .i64 0] 25 (0, 0))) ∧ Sd (Below w.heap.size w wc))
    case first =>
     have H := HC34.out
     clear HC34
     by_cases c36 : (wrap64 (Int.tdiv t299 1000)) > 0
     ·rw [if_pos c36] at H
      have c36b0 : decide (0 < (wrap64 (Int.tdiv t299 1000))) = true := decide_eq_true c36
      clear c36
      (first | rw [c36b0] | (simp only [i64_w, i32_w]; rw [c36b0]) | skip)
      by_cases c37 : (wrap64 (Int.tdiv t299 1000)) = 0
      ·rw [if_pos c37] at H
       exact absurd H (by simp)
      ·rw [if_neg c37] at H
       have c37b0 : ((wrap64 (Int.tdiv t299 1000)) == 0) = false := beq_eq_false_iff_ne.mpr c37
       have c37b1 : ((wrap64 (Int.tdiv t299 1000)) != 0) = true := bne_iff_ne.mpr c37
       have H' := Sd.mk H
       clear H
       go_wp2
       go_meet
       case rel => exact ⟨_, (decide (t300 > (wrap64 ((1000000000000000 : Int) / (wrap64 (Int.tdiv t299 1000)))))), (by first | rfl | (simp; done) | (simp [*]; done) | (simp [Int.tdiv_eq_ediv_of_nonneg]; done) | (simp [*, Int.tdiv_eq_ediv_of_nonneg]; done)), H', ⟨by have := HJ4.out; first | omega | exact Nat.le_refl _⟩, fwK BK290, fwK BK291, fwK BK292, ⟨bbl⟩⟩
     ·rw [if_neg c36] at H
      have c36b0 : decide (0 < (wrap64 (Int.tdiv t299 1000))) = false := decide_eq_false c36
      clear c36
      (first | rw [c36b0] | (simp only [i64_w, i32_w]; rw [c36b0]) | skip)
      have H' := Sd.mk H
      clear H
      go_wp2
      go_meet
      case rel => exact ⟨_, (false), ae, H', ⟨by have := HJ4.out; first | omega | exact Nat.le_refl _⟩, fwK BK290, fwK BK291, fwK BK292, ⟨bbl⟩⟩
    case rest =>
     clear HC34
     obtain ⟨kq, x42_33, rfl, HA, HJ33, BK290, BK291, BK292, HB⟩ := hcut
     cases kq with
     | zero => exact absurd HA.out (by simp [r8_times.j1])
     | succ kj33 =>
      have H := HA.out
      clear HA
      simp only [r8_times.j1] at H
      by_cases c38 : x42_33 = true
      ·subst c38
       replace H := iT H
       obtain ⟨⟨t301, t302⟩, A39, H⟩ := bnd H
       replace H : (some (t301, t302)) = some (r1, r2) := H
       obtain ⟨rfl, rfl⟩ := zs2 H
       go_wp2_with (first | ((with_reducible refine gate_callee (f := 148) rfl ?_); refine goesL_ (some 44) rfl rfl Tryz.func148 (by kernel_rfl) rfl #[.int .i64 (wrap64 (t293 * t294))] rfl ma ?_; (with_reducible refine (r8_beyond.calls (wrap64 (t293 * t294)) t301 t302 _ A39.out).mono ?_); rintro e w40 ⟨rfl, hb⟩; refine ⟨_, rfl, ?_⟩; replace BK290 := bkb BK290 hb; replace BK291 := bkb BK291 hb; replace BK292 := bkb BK292 hb; replace HB := bsq w hb; (try clear hb); have hnb41 := NB292_290.out; have hnc41 := NB290_292.out; have hnb42 := NB292_291.out; have hnc42 := NB291_292.out; have hcz43_0 := bz0 BK292; have hcz43_1 := bz1 BK292; have hfz43_0 := blk_frozen BK292.out 0; have hfz43_1 := blk_frozen BK292.out 1))
       refine bodyPost_ret (results_cell_row rfl _ _ gb292 25 #[.int .i64 t301, .int .i64 t302] (0, 0) _ rfl (by (repeat refine dw ?_); refine blk_put (cs := #[.int .i64 t301, .int .i64 0]) ?_ 1 _ rfl; (repeat refine dw ?_); refine blk_put (cs := #[.int .i64 0, .int .i64 0]) ?_ 0 _ rfl; (repeat refine dw ?_); exact BK292.out) Tryz.underlying25 rfl (by kernel_rfl)) rfl ?_
       exact ⟨fe, bbl⟩
      ·replace c38 := znf c38
       subst c38
       replace H := iF H
       obtain ⟨⟨t303, t304⟩, A44, H⟩ := bnd H
       replace H : (some (t303, t304)) = some (r1, r2) := H
       obtain ⟨rfl, rfl⟩ := zs2 H
       go_wp2_with (first | ((with_reducible refine gate_callee (f := 27) rfl ?_); refine goesL_ (some 55) rfl rfl Tryz.func27 (by kernel_rfl) rfl #[.int .i64 (wrap64 ((wrap64 (t293 * t294)) * (wrap64 ((wrap64 ((wrap64 (Int.tdiv t299 1000)) * t300)) + (wrap64 (Int.tdiv (wrap64 ((Int.tmod t299 1000) * t300)) 1000))))))] rfl ma ?_; (with_reducible refine (r8_Num.calls (wrap64 ((wrap64 (t293 * t294)) * (wrap64 ((wrap64 ((wrap64 (Int.tdiv t299 1000)) * t300)) + (wrap64 (Int.tdiv (wrap64 ((Int.tmod t299 1000) * t300)) 1000)))))) t303 t304 _ A44.out).mono ?_); rintro e w45 ⟨rfl, hb⟩; refine ⟨_, rfl, ?_⟩; replace BK290 := bkb BK290 hb; replace BK291 := bkb BK291 hb; replace BK292 := bkb BK292 hb; replace HB := bsq w hb; (try clear hb); have hnb46 := NB292_290.out; have hnc46 := NB290_292.out; have hnb47 := NB292_291.out; have hnc47 := NB291_292.out; have hcz48_0 := bz0 BK292; have hcz48_1 := bz1 BK292; have hfz48_0 := blk_frozen BK292.out 0; have hfz48_1 := blk_frozen BK292.out 1))
       refine bodyPost_ret (results_cell_row rfl _ _ gb292 25 #[.int .i64 t303, .int .i64 t304] (0, 0) _ rfl (by (repeat refine dw ?_); refine blk_put (cs := #[.int .i64 t303, .int .i64 0]) ?_ 1 _ rfl; (repeat refine dw ?_); refine blk_put (cs := #[.int .i64 0, .int .i64 0]) ?_ 0 _ rfl; (repeat refine dw ?_); exact BK292.out) Tryz.underlying25 rfl (by kernel_rfl)) rfl ?_
       exact ⟨fe, bbl⟩
mutual
def r8_over.j0 : Nat → Bool → Int → Int → Int → Int → Option (Int × Int)
 | 0, _, _, _, _, _ => none
 | k + 1, x5, x306000, x306001, x307000, x307001 => if x5 = true then ((r8_sign.f k x306000 x306001).bind fun t310 => ((r8_beyond.f t310).bind fun bt311 => (some (bt311.1, bt311.2)))) else ((r8_num.f x306000 x306001).bind fun t313 => (if t313 = true then ((r8_num.f x307000 x307001).bind fun t314 => (r8_over.j1 k t314 x306000 x306001 x307000 x307001)) else (r8_over.j1 k false x306000 x306001 x307000 x307001)))
def r8_over.j1 : Nat → Bool → Int → Int → Int → Int → Option (Int × Int)
 | 0, _, _, _, _, _ => none
 | k + 1, x20, x306000, x306001, x307000, x307001 => if x20 = true then (if x307001 = 0 then (none) else ((r8_Num.f (wrap64 (Int.tdiv (wrap64 (x306001 * 1000)) x307001))).bind fun bt315 => (some (bt315.1, bt315.2)))) else ((r8_num.f x306000 x306001).bind fun t317 => (if t317 = true then ((r8_Num.f 0).bind fun bt318 => (some (bt318.1, bt318.2))) else ((r8_num.f x307000 x307001).bind fun t320 => (if t320 = true then (r8_over.j2 k (decide (x307001 < 0)) x306000 x306001 x307000 x307001) else (r8_over.j2 k false x306000 x306001 x307000 x307001)))))
def r8_over.j2 : Nat → Bool → Int → Int → Int → Int → Option (Int × Int)
 | 0, _, _, _, _, _ => none
 | k + 1, x38, x306000, x306001, x307000, x307001 => if x38 = true then ((r8_turned.f x306000 x306001).bind fun bt321 => (some (bt321.1, bt321.2))) else ((r8_num.f x307000 x307001).bind fun t323 => (if t323 = true then (some (x306000, x306001)) else ((r8_NaN.f).bind fun bt324 => (some (bt324.1, bt324.2)))))
end
def r8_over.f (k : Nat) (a0_0 : Int) (a0_1 : Int) (a1_0 : Int) (a1_1 : Int) : Option (Int × Int) := (r8_num.f a0_0 a0_1).bind fun t308 => (if t308 = true then ((r8_num.f a1_0 a1_1).bind fun t309 => (if t309 = true then (r8_over.j0 k (a1_1 == 0) a0_0 a0_1 a1_0 a1_1) else (r8_over.j0 k false a0_0 a0_1 a1_0 a1_1))) else (r8_over.j0 k false a0_0 a0_1 a1_0 a1_1))
theorem r8_over.calls (k : Nat) (a0_0 : Int) (a0_1 : Int) (a1_0 : Int) (a1_1 : Int) (r1 : Int) (r2 : Int) (w : World) (h : r8_over.f k a0_0 a0_1 a1_0 a1_1 = some (r1, r2)) :
  Calls Tryz.prog 100 #[.agg #[.int .i64 a0_0, .int .i64 a0_1], .agg #[.int .i64 a1_0, .int .i64 a1_1]] w fun e w' => e = .returned (.agg #[.int .i64 r1, .int .i64 r2]) ∧ Below w.heap.size w w' := by
 have hu25 := Tryz.underlying25
 have HB := zsB w
 have H : ((r8_num.f a0_0 a0_1).bind fun t308 => (if t308 = true then ((r8_num.f a1_0 a1_1).bind fun t309 => (if t309 = true then (r8_over.j0 k (a1_1 == 0) a0_0 a0_1 a1_0 a1_1) else (r8_over.j0 k false a0_0 a0_1 a1_0 a1_1))) else (r8_over.j0 k false a0_0 a0_1 a1_0 a1_1))) = some (r1, r2) := h
 clear h
 have HC3 := Sd.mk H
 clear H
 go_enter Tryz.func100, Tryz.ntmps100
 go_upto_region 1 with (first | ((with_reducible refine gate_dst (N := 2) rfl ?_); refine bxe (N := 2) (cs := #[.int .i64 a0_0, .int .i64 a0_1]) (t := 25) ?_; intro gb305 hg w4 hbox hb; have BK305 := Sd.mk hbox; have GW305 := bge w hg; replace HB := bsq w hb; clear hb hbox hg) | ((with_reducible refine gate_dst (N := 3) rfl ?_); refine bxe (N := 3) (cs := #[.int .i64 a1_0, .int .i64 a1_1]) (t := 25) ?_; intro gb306 hg w5 hbox hb; have BK306 := Sd.mk hbox; have GW306 := bge w hg; have NB305_306 := bnl BK305 hg; have NB306_305 := bng BK305 hg; replace BK305 := bkb BK305 hb; replace HB := bsq w hb; clear hb hbox hg) | ((with_reducible refine gate_dst (N := 4) rfl ?_); refine bxe (N := 4) (cs := #[.int .i64 0, .int .i64 0]) (t := 25) ?_; intro gb307 hg w6 hbox hb; have BK307 := Sd.mk hbox; have GW307 := bge w hg; have NB305_307 := bnl BK305 hg; have NB307_305 := bng BK305 hg; have NB306_307 := bnl BK306 hg; have NB307_306 := bng BK306 hg; replace BK305 := bkb BK305 hb; replace BK306 := bkb BK306 hb; replace HB := bsq w hb; clear hb hbox hg))
 (try simp only [Act.put, List.setIfInBounds_toArray, List.set_cons_zero, List.set_cons_succ])
 go_cut [5] (fun v5 wc => ∃ (kq : Nat) (x5_2 : Bool), v5 = .bool x5_2 ∧ Sd (r8_over.j0 kq x5_2 a0_0 a0_1 a1_0 a1_1 = some (r1, r2)) ∧ Sd (kq ≤ k) ∧ Sd (wc.heap[gb305]? = some (.cells #[.int .i64 a0_0, .int .i64 a0_1] 25 (0, 0))) ∧ Sd (wc.heap[gb306]? = some (.cells #[.int .i64 a1_0, .int .i64 a1_1] 25 (0, 0))) ∧ Sd (wc.heap[gb307]? = some (.cells #[.int .i64 0, .int .i64 0] 25 (0, 0))) ∧ Sd (Below w.heap.size w wc))
 case first =>
  have H := HC3.out
  clear HC3
  obtain ⟨t308, A7, H⟩ := bnd H
  by_cases c8 : t308 = true
  ·subst c8
   replace H := iT H
   obtain ⟨t309, A9, H⟩ := bnd H
   by_cases c10 : t309 = true
   ·subst c10
    replace H := iT H
    have H' := Sd.mk H
    clear H
    have := NB305_306.out
    have := NB306_305.out
    have := NB305_307.out
    have := NB307_305.out
    obtain ⟨_, _, _, _⟩ := bz BK305
    go_wp2_with (first | ((with_reducible refine gate_callee (f := 84) rfl ?_); refine goesL_ (some 7) rfl rfl Tryz.func84 (by kernel_rfl) rfl #[.agg #[.int .i64 a0_0, .int .i64 a0_1]] rfl ma ?_; (with_reducible refine (r8_num.calls a0_0 a0_1 true _ A7.out).mono ?_); rintro e w14 ⟨rfl, hb⟩; refine ⟨_, rfl, ?_⟩; replace BK305 := bkb BK305 hb; replace BK306 := bkb BK306 hb; replace BK307 := bkb BK307 hb; replace HB := bsq w hb; (try clear hb); have hnb15 := NB306_307.out; have hnc15 := NB307_306.out; have hcz16_0 := bz0 BK306; have hcz16_1 := bz1 BK306; have hfz16_0 := blk_frozen BK306.out 0; have hfz16_1 := blk_frozen BK306.out 1) | (go_at_call 84; (with_reducible refine (r8_num.calls a1_0 a1_1 true _ A9.out).mono ?_); rintro e w17 ⟨rfl, hb⟩; replace BK305 := bkb BK305 hb; replace BK306 := bkb BK306 hb; replace BK307 := bkb BK307 hb; replace HB := bsq w hb; (try clear hb); have hcz18_0 := bz0 BK306; have hcz18_1 := bz1 BK306; have hfz18_0 := blk_frozen BK306.out 0; have hfz18_1 := blk_frozen BK306.out 1))
    go_meet
    case rel => exact ⟨_, ((a1_1 == 0)), ae, H', ⟨by first | omega | exact Nat.le_refl _⟩, fwK BK305, fwK BK306, fwK BK307, ⟨bbl⟩⟩
   ·replace c10 := znf c10
    subst c10
    replace H := iF H
    have H' := Sd.mk H
    clear H
    have := NB305_306.out
    have := NB306_305.out
    have := NB305_307.out
    have := NB307_305.out
    obtain ⟨_, _, _, _⟩ := bz BK305
    go_wp2_with (first | ((with_reducible refine gate_callee (f := 84) rfl ?_); refine goesL_ (some 7) rfl rfl Tryz.func84 (by kernel_rfl) rfl #[.agg #[.int .i64 a0_0, .int .i64 a0_1]] rfl ma ?_; (with_reducible refine (r8_num.calls a0_0 a0_1 true _ A7.out).mono ?_); rintro e w22 ⟨rfl, hb⟩; refine ⟨_, rfl, ?_⟩; replace BK305 := bkb BK305 hb; replace BK306 := bkb BK306 hb; replace BK307 := bkb BK307 hb; replace HB := bsq w hb; (try clear hb); have hnb23 := NB306_307.out; have hnc23 := NB307_306.out; have hcz24_0 := bz0 BK306; have hcz24_1 := bz1 BK306; have hfz24_0 := blk_frozen BK306.out 0; have hfz24_1 := blk_frozen BK306.out 1) | (go_at_call 84; (with_reducible refine (r8_num.calls a1_0 a1_1 false _ A9.out).mono ?_); rintro e w25 ⟨rfl, hb⟩; replace BK305 := bkb BK305 hb; replace BK306 := bkb BK306 hb; replace BK307 := bkb BK307 hb; replace HB := bsq w hb; (try clear hb)))
    go_meet
    case rel => exact ⟨_, (false), ae, H', ⟨by first | omega | exact Nat.le_refl _⟩, fwK BK305, fwK BK306, fwK BK307, ⟨bbl⟩⟩
  ·replace c8 := znf c8
   subst c8
   replace H := iF H
   have H' := Sd.mk H
   clear H
   have := NB305_306.out
   have := NB306_305.out
   have := NB305_307.out
   have := NB307_305.out
   obtain ⟨_, _, _, _⟩ := bz BK305
   go_wp2_with (first | ((with_reducible refine gate_callee (f := 84) rfl ?_); refine goesL_ (some 7) rfl rfl Tryz.func84 (by kernel_rfl) rfl #[.agg #[.int .i64 a0_0, .int .i64 a0_1]] rfl ma ?_; (with_reducible refine (r8_num.calls a0_0 a0_1 false _ A7.out).mono ?_); rintro e w29 ⟨rfl, hb⟩; refine ⟨_, rfl, ?_⟩; replace BK305 := bkb BK305 hb; replace BK306 := bkb BK306 hb; replace BK307 := bkb BK307 hb; replace HB := bsq w hb; (try clear hb)))
   go_meet
   case rel => exact ⟨_, (false), ae, H', ⟨by first | omega | exact Nat.le_refl _⟩, fwK BK305, fwK BK306, fwK BK307, ⟨bbl⟩⟩
 case rest =>
  clear HC3
  obtain ⟨kq, x5_2, rfl, HA, HJ2, BK305, BK306, BK307, HB⟩ := hcut
  cases kq with
  | zero => exact absurd HA.out (by simp [r8_over.j0])
  | succ kj2 =>
   have H := HA.out
   clear HA
   simp only [r8_over.j0] at H
   by_cases c30 : x5_2 = true
   ·subst c30
    replace H := iT H
    obtain ⟨t310, A31, H⟩ := bnd H
    obtain ⟨⟨t311, t312⟩, A32, H⟩ := bnd H
    replace H : (some (t311, t312)) = some (r1, r2) := H
    obtain ⟨rfl, rfl⟩ := zs2 H
    have := NB305_306.out
    have := NB306_305.out
    have := NB305_307.out
    have := NB307_305.out
    obtain ⟨_, _, _, _⟩ := bz BK305
    go_wp2_with (first | ((with_reducible refine gate_callee (f := 96) rfl ?_); refine goesL_ (some 18) rfl rfl Tryz.func96 (by kernel_rfl) rfl #[.agg #[.int .i64 a0_0, .int .i64 a0_1]] rfl ma ?_; (with_reducible refine (r8_sign.calls kj2 a0_0 a0_1 t310 _ A31.out).mono ?_); rintro e w36 ⟨rfl, hb⟩; refine ⟨_, rfl, ?_⟩; replace BK305 := bkb BK305 hb; replace BK306 := bkb BK306 hb; replace BK307 := bkb BK307 hb; replace HB := bsq w hb; (try clear hb)) | ((with_reducible refine gate_callee (f := 148) rfl ?_); refine goesL_ (some 19) rfl rfl Tryz.func148 (by kernel_rfl) rfl #[.int .i64 t310] rfl ma ?_; (with_reducible refine (r8_beyond.calls t310 t311 t312 _ A32.out).mono ?_); rintro e w37 ⟨rfl, hb⟩; refine ⟨_, rfl, ?_⟩; replace BK305 := bkb BK305 hb; replace BK306 := bkb BK306 hb; replace BK307 := bkb BK307 hb; replace HB := bsq w hb; (try clear hb); have hnb38 := NB307_306.out; have hnc38 := NB306_307.out; have hcz39_0 := bz0 BK307; have hcz39_1 := bz1 BK307; have hfz39_0 := blk_frozen BK307.out 0; have hfz39_1 := blk_frozen BK307.out 1))
    refine bodyPost_ret (results_cell_row rfl _ _ gb307 25 #[.int .i64 t311, .int .i64 t312] (0, 0) _ rfl (by (repeat refine dw ?_); refine blk_put (cs := #[.int .i64 t311, .int .i64 0]) ?_ 1 _ rfl; (repeat refine dw ?_); refine blk_put (cs := #[.int .i64 0, .int .i64 0]) ?_ 0 _ rfl; (repeat refine dw ?_); exact BK307.out) Tryz.underlying25 rfl (by kernel_rfl)) rfl ?_
    exact ⟨fe, bbl⟩
   ·replace c30 := znf c30
    subst c30
    replace H := iF H
    have HC40 := Sd.mk H
    clear H
    go_upto_region 3 with (fail)
    go_cut [20] (fun v20 wc => ∃ (kq : Nat) (x20_39 : Bool), v20 = .bool x20_39 ∧ Sd (r8_over.j1 kq x20_39 a0_0 a0_1 a1_0 a1_1 = some (r1, r2)) ∧ Sd (kq ≤ kj2) ∧ Sd (wc.heap[gb305]? = some (.cells #[.int .i64 a0_0, .int .i64 a0_1] 25 (0, 0))) ∧ Sd (wc.heap[gb306]? = some (.cells #[.int .i64 a1_0, .int .i64 a1_1] 25 (0, 0))) ∧ Sd (wc.heap[gb307]? = some (.cells #[.int .i64 0, .int .i64 0] 25 (0, 0))) ∧ Sd (Below w.heap.size w wc))
    case first =>
     have H := HC40.out
     clear HC40
     obtain ⟨t313, A41, H⟩ := bnd H
     by_cases c42 : t313 = true
     ·subst c42
      replace H := iT H
      obtain ⟨t314, A43, H⟩ := bnd H
      have H' := Sd.mk H
      clear H
      have := NB305_306.out
      have := NB306_305.out
      have := NB305_307.out
      have := NB307_305.out
      obtain ⟨_, _, _, _⟩ := bz BK305
      go_wp2_with (first | ((with_reducible refine gate_callee (f := 84) rfl ?_); refine goesL_ (some 22) rfl rfl Tryz.func84 (by kernel_rfl) rfl #[.agg #[.int .i64 a0_0, .int .i64 a0_1]] rfl ma ?_; (with_reducible refine (r8_num.calls a0_0 a0_1 true _ A41.out).mono ?_); rintro e w47 ⟨rfl, hb⟩; refine ⟨_, rfl, ?_⟩; replace BK305 := bkb BK305 hb; replace BK306 := bkb BK306 hb; replace BK307 := bkb BK307 hb; replace HB := bsq w hb; (try clear hb); have hnb48 := NB306_307.out; have hnc48 := NB307_306.out; have hcz49_0 := bz0 BK306; have hcz49_1 := bz1 BK306; have hfz49_0 := blk_frozen BK306.out 0; have hfz49_1 := blk_frozen BK306.out 1) | (go_at_call 84; (with_reducible refine (r8_num.calls a1_0 a1_1 t314 _ A43.out).mono ?_); rintro e w50 ⟨rfl, hb⟩; replace BK305 := bkb BK305 hb; replace BK306 := bkb BK306 hb; replace BK307 := bkb BK307 hb; replace HB := bsq w hb; (try clear hb)))
      go_meet
      case rel => exact ⟨_, (t314), ae, H', ⟨by have := HJ2.out; first | omega | exact Nat.le_refl _⟩, fwK BK305, fwK BK306, fwK BK307, ⟨bbl⟩⟩
     ·replace c42 := znf c42
      subst c42
      replace H := iF H
      have H' := Sd.mk H
      clear H
      have := NB305_306.out
      have := NB306_305.out
      have := NB305_307.out
      have := NB307_305.out
      obtain ⟨_, _, _, _⟩ := bz BK305
      go_wp2_with (first | ((with_reducible refine gate_callee (f := 84) rfl ?_); refine goesL_ (some 22) rfl rfl Tryz.func84 (by kernel_rfl) rfl #[.agg #[.int .i64 a0_0, .int .i64 a0_1]] rfl ma ?_; (with_reducible refine (r8_num.calls a0_0 a0_1 false _ A41.out).mono ?_); rintro e w54 ⟨rfl, hb⟩; refine ⟨_, rfl, ?_⟩; replace BK305 := bkb BK305 hb; replace BK306 := bkb BK306 hb; replace BK307 := bkb BK307 hb; replace HB := bsq w hb; (try clear hb)))
      go_meet
      case rel => exact ⟨_, (false), ae, H', ⟨by have := HJ2.out; first | omega | exact Nat.le_refl _⟩, fwK BK305, fwK BK306, fwK BK307, ⟨bbl⟩⟩
    case rest =>
     clear HC40
     obtain ⟨kq, x20_39, rfl, HA, HJ39, BK305, BK306, BK307, HB⟩ := hcut
     cases kq with
     | zero => exact absurd HA.out (by simp [r8_over.j1])
     | succ kj39 =>
      have H := HA.out
      clear HA
      simp only [r8_over.j1] at H
      by_cases c55 : x20_39 = true
      ·subst c55
       replace H := iT H
       by_cases c56 : a1_1 = 0
       ·rw [if_pos c56] at H
        exact absurd H (by simp)
       ·rw [if_neg c56] at H
        have c56b0 := beq_eq_false_iff_ne.mpr c56
        have c56b1 := bne_iff_ne.mpr c56
        obtain ⟨⟨t315, t316⟩, A57, H⟩ := bnd H
        replace H : (some (t315, t316)) = some (r1, r2) := H
        obtain ⟨rfl, rfl⟩ := zs2 H
        have := NB305_306.out
        have := NB306_305.out
        have := NB305_307.out
        have := NB307_305.out
        obtain ⟨_, _, _, _⟩ := bz BK305
        have := NB306_307.out
        have := NB307_306.out
        obtain ⟨_, _, _, _⟩ := bz BK306
        go_wp2_with (first | ((with_reducible refine gate_callee (f := 27) rfl ?_); refine goesL_ (some 33) rfl rfl Tryz.func27 (by kernel_rfl) rfl #[.int .i64 (wrap64 (Int.tdiv (wrap64 (a0_1 * 1000)) a1_1))] rfl ma ?_; (with_reducible refine (r8_Num.calls (wrap64 (Int.tdiv (wrap64 (a0_1 * 1000)) a1_1)) t315 t316 _ A57.out).mono ?_); rintro e w63 ⟨rfl, hb⟩; refine ⟨_, rfl, ?_⟩; replace BK305 := bkb BK305 hb; replace BK306 := bkb BK306 hb; replace BK307 := bkb BK307 hb; replace HB := bsq w hb; (try clear hb); have hcz64_0 := bz0 BK307; have hcz64_1 := bz1 BK307; have hfz64_0 := blk_frozen BK307.out 0; have hfz64_1 := blk_frozen BK307.out 1))
        refine bodyPost_ret (results_cell_row rfl _ _ gb307 25 #[.int .i64 t315, .int .i64 t316] (0, 0) _ rfl (by (repeat refine dw ?_); refine blk_put (cs := #[.int .i64 t315, .int .i64 0]) ?_ 1 _ rfl; (repeat refine dw ?_); refine blk_put (cs := #[.int .i64 0, .int .i64 0]) ?_ 0 _ rfl; (repeat refine dw ?_); exact BK307.out) Tryz.underlying25 rfl (by kernel_rfl)) rfl ?_
        exact ⟨fe, bbl⟩
      ·replace c55 := znf c55
       subst c55
       replace H := iF H
       obtain ⟨t317, A65, H⟩ := bnd H
       by_cases c66 : t317 = true
       ·subst c66
        replace H := iT H
        obtain ⟨⟨t318, t319⟩, A67, H⟩ := bnd H
        replace H : (some (t318, t319)) = some (r1, r2) := H
        obtain ⟨rfl, rfl⟩ := zs2 H
        have := NB305_306.out
        have := NB306_305.out
        have := NB305_307.out
        have := NB307_305.out
        obtain ⟨_, _, _, _⟩ := bz BK305
        go_wp2_with (first | ((with_reducible refine gate_callee (f := 84) rfl ?_); refine goesL_ (some 36) rfl rfl Tryz.func84 (by kernel_rfl) rfl #[.agg #[.int .i64 a0_0, .int .i64 a0_1]] rfl ma ?_; (with_reducible refine (r8_num.calls a0_0 a0_1 true _ A65.out).mono ?_); rintro e w71 ⟨rfl, hb⟩; refine ⟨_, rfl, ?_⟩; replace BK305 := bkb BK305 hb; replace BK306 := bkb BK306 hb; replace BK307 := bkb BK307 hb; replace HB := bsq w hb; (try clear hb)) | ((with_reducible refine gate_callee (f := 27) rfl ?_); refine goesL_ (some 37) rfl rfl Tryz.func27 (by kernel_rfl) rfl #[.int .i64 0] rfl ma ?_; (with_reducible refine (r8_Num.calls 0 t318 t319 _ A67.out).mono ?_); rintro e w72 ⟨rfl, hb⟩; refine ⟨_, rfl, ?_⟩; replace BK305 := bkb BK305 hb; replace BK306 := bkb BK306 hb; replace BK307 := bkb BK307 hb; replace HB := bsq w hb; (try clear hb); have hnb73 := NB307_306.out; have hnc73 := NB306_307.out; have hcz74_0 := bz0 BK307; have hcz74_1 := bz1 BK307; have hfz74_0 := blk_frozen BK307.out 0; have hfz74_1 := blk_frozen BK307.out 1))
        refine bodyPost_ret (results_cell_row rfl _ _ gb307 25 #[.int .i64 t318, .int .i64 t319] (0, 0) _ rfl (by (repeat refine dw ?_); refine blk_put (cs := #[.int .i64 t318, .int .i64 0]) ?_ 1 _ rfl; (repeat refine dw ?_); refine blk_put (cs := #[.int .i64 0, .int .i64 0]) ?_ 0 _ rfl; (repeat refine dw ?_); exact BK307.out) Tryz.underlying25 rfl (by kernel_rfl)) rfl ?_
        exact ⟨fe, bbl⟩
       ·replace c66 := znf c66
        subst c66
        replace H := iF H
        have HC75 := Sd.mk H
        clear H
        have := NB305_306.out
        have := NB306_305.out
        have := NB305_307.out
        have := NB307_305.out
        obtain ⟨_, _, _, _⟩ := bz BK305
        go_upto_region 7 with (first | ((with_reducible refine gate_callee (f := 84) rfl ?_); refine goesL_ (some 36) rfl rfl Tryz.func84 (by kernel_rfl) rfl #[.agg #[.int .i64 a0_0, .int .i64 a0_1]] rfl ma ?_; (with_reducible refine (r8_num.calls a0_0 a0_1 false _ A65.out).mono ?_); rintro e w79 ⟨rfl, hb⟩; refine ⟨_, rfl, ?_⟩; replace BK305 := bkb BK305 hb; replace BK306 := bkb BK306 hb; replace BK307 := bkb BK307 hb; replace HB := bsq w hb; (try clear hb)))
        (try simp only [Act.put, List.setIfInBounds_toArray, List.set_cons_zero, List.set_cons_succ])
        go_cut [38] (fun v38 wc => ∃ (kq : Nat) (x38_74 : Bool), v38 = .bool x38_74 ∧ Sd (r8_over.j2 kq x38_74 a0_0 a0_1 a1_0 a1_1 = some (r1, r2)) ∧ Sd (kq ≤ kj39) ∧ Sd (wc.heap[gb305]? = some (.cells #[.int .i64 a0_0, .int .i64 a0_1] 25 (0, 0))) ∧ Sd (wc.heap[gb306]? = some (.cells #[.int .i64 a1_0, .int .i64 a1_1] 25 (0, 0))) ∧ Sd (wc.heap[gb307]? = some (.cells #[.int .i64 0, .int .i64 0] 25 (0, 0))) ∧ Sd (Below w.heap.size w wc))
        case first =>
         have H := HC75.out
         clear HC75
         obtain ⟨t320, A80, H⟩ := bnd H
         by_cases c81 : t320 = true
         ·subst c81
          replace H := iT H
          have H' := Sd.mk H
          clear H
          have := NB306_305.out
          have := NB305_306.out
          have := NB306_307.out
          have := NB307_306.out
          obtain ⟨_, _, _, _⟩ := bz BK306
          go_wp2_with (first | ((with_reducible refine gate_callee (f := 84) rfl ?_); refine goesL_ (some 40) rfl rfl Tryz.func84 (by kernel_rfl) rfl #[.agg #[.int .i64 a1_0, .int .i64 a1_1]] rfl ma ?_; (with_reducible refine (r8_num.calls a1_0 a1_1 true _ A80.out).mono ?_); rintro e w85 ⟨rfl, hb⟩; refine ⟨_, rfl, ?_⟩; replace BK305 := bkb BK305 hb; replace BK306 := bkb BK306 hb; replace BK307 := bkb BK307 hb; replace HB := bsq w hb; (try clear hb); have hcz86_0 := bz0 BK306; have hcz86_1 := bz1 BK306; have hfz86_0 := blk_frozen BK306.out 0; have hfz86_1 := blk_frozen BK306.out 1))
          go_meet
          case rel => exact ⟨_, (decide (a1_1 < 0)), ae, H', ⟨by have := HJ2.out; have := HJ39.out; first | omega | exact Nat.le_refl _⟩, fwK BK305, fwK BK306, fwK BK307, ⟨bbl⟩⟩
         ·replace c81 := znf c81
          subst c81
          replace H := iF H
          have H' := Sd.mk H
          clear H
          have := NB306_305.out
          have := NB305_306.out
          have := NB306_307.out
          have := NB307_306.out
          obtain ⟨_, _, _, _⟩ := bz BK306
          go_wp2_with (first | ((with_reducible refine gate_callee (f := 84) rfl ?_); refine goesL_ (some 40) rfl rfl Tryz.func84 (by kernel_rfl) rfl #[.agg #[.int .i64 a1_0, .int .i64 a1_1]] rfl ma ?_; (with_reducible refine (r8_num.calls a1_0 a1_1 false _ A80.out).mono ?_); rintro e w90 ⟨rfl, hb⟩; refine ⟨_, rfl, ?_⟩; replace BK305 := bkb BK305 hb; replace BK306 := bkb BK306 hb; replace BK307 := bkb BK307 hb; replace HB := bsq w hb; (try clear hb)))
          go_meet
          case rel => exact ⟨_, (false), ae, H', ⟨by have := HJ2.out; have := HJ39.out; first | omega | exact Nat.le_refl _⟩, fwK BK305, fwK BK306, fwK BK307, ⟨bbl⟩⟩
        case rest =>
         clear HC75
         obtain ⟨kq, x38_74, rfl, HA, HJ74, BK305, BK306, BK307, HB⟩ := hcut
         cases kq with
         | zero => exact absurd HA.out (by simp [r8_over.j2])
         | succ kj74 =>
          have H := HA.out
          clear HA
          simp only [r8_over.j2] at H
          by_cases c91 : x38_74 = true
          ·subst c91
           replace H := iT H
           obtain ⟨⟨t321, t322⟩, A92, H⟩ := bnd H
           replace H : (some (t321, t322)) = some (r1, r2) := H
           obtain ⟨rfl, rfl⟩ := zs2 H
           have := NB305_306.out
           have := NB306_305.out
           have := NB305_307.out
           have := NB307_305.out
           obtain ⟨_, _, _, _⟩ := bz BK305
           go_wp2_with (first | ((with_reducible refine gate_callee (f := 97) rfl ?_); refine goesL_ (some 47) rfl rfl Tryz.func97 (by kernel_rfl) rfl #[.agg #[.int .i64 a0_0, .int .i64 a0_1]] rfl ma ?_; (with_reducible refine (r8_turned.calls a0_0 a0_1 t321 t322 _ A92.out).mono ?_); rintro e w96 ⟨rfl, hb⟩; refine ⟨_, rfl, ?_⟩; replace BK305 := bkb BK305 hb; replace BK306 := bkb BK306 hb; replace BK307 := bkb BK307 hb; replace HB := bsq w hb; (try clear hb); have hnb97 := NB307_306.out; have hnc97 := NB306_307.out; have hcz98_0 := bz0 BK307; have hcz98_1 := bz1 BK307; have hfz98_0 := blk_frozen BK307.out 0; have hfz98_1 := blk_frozen BK307.out 1))
           refine bodyPost_ret (results_cell_row rfl _ _ gb307 25 #[.int .i64 t321, .int .i64 t322] (0, 0) _ rfl (by (repeat refine dw ?_); refine blk_put (cs := #[.int .i64 t321, .int .i64 0]) ?_ 1 _ rfl; (repeat refine dw ?_); refine blk_put (cs := #[.int .i64 0, .int .i64 0]) ?_ 0 _ rfl; (repeat refine dw ?_); exact BK307.out) Tryz.underlying25 rfl (by kernel_rfl)) rfl ?_
           exact ⟨fe, bbl⟩
          ·replace c91 := znf c91
           subst c91
           replace H := iF H
           obtain ⟨t323, A99, H⟩ := bnd H
           by_cases c100 : t323 = true
           ·subst c100
            replace H := iT H
            obtain ⟨rfl, rfl⟩ := zs2 H
            have := NB306_305.out
            have := NB305_306.out
            have := NB306_307.out
            have := NB307_306.out
            obtain ⟨_, _, _, _⟩ := bz BK306
            go_wp2_with (first | ((with_reducible refine gate_callee (f := 84) rfl ?_); refine goesL_ (some 50) rfl rfl Tryz.func84 (by kernel_rfl) rfl #[.agg #[.int .i64 a1_0, .int .i64 a1_1]] rfl ma ?_; (with_reducible refine (r8_num.calls a1_0 a1_1 true _ A99.out).mono ?_); rintro e w104 ⟨rfl, hb⟩; refine ⟨_, rfl, ?_⟩; replace BK305 := bkb BK305 hb; replace BK306 := bkb BK306 hb; replace BK307 := bkb BK307 hb; replace HB := bsq w hb; (try clear hb); have hnb105 := NB305_307.out; have hnc105 := NB307_305.out; have hcz106_0 := bz0 BK305; have hcz106_1 := bz1 BK305; have hfz106_0 := blk_frozen BK305.out 0; have hfz106_1 := blk_frozen BK305.out 1; have hcz107_0 := bz0 BK307; have hcz107_1 := bz1 BK307; have hfz107_0 := blk_frozen BK307.out 0; have hfz107_1 := blk_frozen BK307.out 1))
            refine bodyPost_ret (results_cell_row rfl _ _ gb307 25 #[.int .i64 a0_0, .int .i64 a0_1] (0, 0) _ rfl (by (repeat refine dw ?_); refine blk_put (cs := #[.int .i64 a0_0, .int .i64 0]) ?_ 1 _ rfl; (repeat refine dw ?_); refine blk_put (cs := #[.int .i64 0, .int .i64 0]) ?_ 0 _ rfl; (repeat refine dw ?_); exact BK307.out) Tryz.underlying25 rfl (by kernel_rfl)) rfl ?_
            exact ⟨fe, bbl⟩
           ·replace c100 := znf c100
            subst c100
            replace H := iF H
            obtain ⟨⟨t324, t325⟩, A108, H⟩ := bnd H
            replace H : (some (t324, t325)) = some (r1, r2) := H
            obtain ⟨rfl, rfl⟩ := zs2 H
            have := NB306_305.out
            have := NB305_306.out
            have := NB306_307.out
            have := NB307_306.out
            obtain ⟨_, _, _, _⟩ := bz BK306
            go_wp2_with (first | ((with_reducible refine gate_callee (f := 84) rfl ?_); refine goesL_ (some 50) rfl rfl Tryz.func84 (by kernel_rfl) rfl #[.agg #[.int .i64 a1_0, .int .i64 a1_1]] rfl ma ?_; (with_reducible refine (r8_num.calls a1_0 a1_1 false _ A99.out).mono ?_); rintro e w112 ⟨rfl, hb⟩; refine ⟨_, rfl, ?_⟩; replace BK305 := bkb BK305 hb; replace BK306 := bkb BK306 hb; replace BK307 := bkb BK307 hb; replace HB := bsq w hb; (try clear hb)) | ((with_reducible refine gate_callee (f := 29) rfl ?_); refine goesL_ (some 52) rfl rfl Tryz.func29 (by kernel_rfl) rfl #[] rfl ma ?_; (with_reducible refine (r8_NaN.calls  t324 t325 _ A108.out).mono ?_); rintro e w113 ⟨rfl, hb⟩; refine ⟨_, rfl, ?_⟩; replace BK305 := bkb BK305 hb; replace BK306 := bkb BK306 hb; replace BK307 := bkb BK307 hb; replace HB := bsq w hb; (try clear hb); have hnb114 := NB307_305.out; have hnc114 := NB305_307.out; have hcz115_0 := bz0 BK307; have hcz115_1 := bz1 BK307; have hfz115_0 := blk_frozen BK307.out 0; have hfz115_1 := blk_frozen BK307.out 1))
            refine bodyPost_ret (results_cell_row rfl _ _ gb307 25 #[.int .i64 t324, .int .i64 t325] (0, 0) _ rfl (by (repeat refine dw ?_); refine blk_put (cs := #[.int .i64 t324, .int .i64 0]) ?_ 1 _ rfl; (repeat refine dw ?_); refine blk_put (cs := #[.int .i64 0, .int .i64 0]) ?_ 0 _ rfl; (repeat refine dw ?_); exact BK307.out) Tryz.underlying25 rfl (by kernel_rfl)) rfl ?_
            exact ⟨fe, bbl⟩
end Go.Proofs.YtcmiehddjgfjaaaGreat.A
