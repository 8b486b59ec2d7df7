/- A part of the proof of LawSeriesJoins: contracts and plain laws, put together by a program of this session. -/
import Derived.Test.YtcmiehddjgfjaaaGreatCJns0
import Derived.Test.YtcmiehddjgfjaaaGreatProg
import Derived.Below
import Derived.Deep.Draws
import Derived.Deep.AppendLies
import Derived.Maps.AppendAt
import Derived.OwnWalk
import Derived.Laws.BytesArg
import Derived.Laws.MakeOwn
import Derived.Laws.OwnMore
import Derived.Deep.OwnRows
import Derived.Tactics
import Derived.Lib.ConvBytes
import Derived.Laws.Slices
import Derived.WalkKit
import Derived.KernelRfl
import Derived.RowKit3
import Derived.Deep.LoopGhost
import Derived.Deep.QuietTactic
import Derived.BigQuiet
import Derived.WideLaws
import Derived.Deep.DeepCutAuto
import Derived.Deep.CutBlock
import Derived.Deep.RegionHeld3
import Derived.Laws.Rows
import Derived.Lib.AppendStr
import Derived.ArgAppend
import Derived.Laws.IdiomCopy
import Derived.OrdersHeld
import Derived.Laws.BitsLemmas
import Derived.RowKit
import Derived.Lib.Strings
import Derived.Lib.Bytealg
import Derived.Shelf.SlSortCmp.Insertion
import Derived.Laws.Strings
import Derived.RangeFuncNested
import Derived.RangeFuncBound
import Derived.RangeFuncCalls
import Derived.RangeFuncLeaves
import Derived.RangeFuncBox
import Derived.Shelf.Abstract
import Derived.Shelf.RegionOpen
import Derived.OwnWalkIn
import Derived.TacticsInMore
import Derived.LoopNIn
import Derived.LoopIn
import Derived.Shelf.SlSortCmp.KitK
import Derived.Shelf.SlSortCmp.ReverseRangeK
set_option linter.unusedVariables false
set_option linter.unusedSimpArgs false
set_option linter.unusedSectionVars false
set_option maxHeartbeats 8000000
set_option maxRecDepth 100000
namespace Go.Proofs.YtcmiehddjgfjaaaGreat.A
open Go.RowKit Go.Proofs.YtcmiehddjgfjaaaGreatW.PrintWords Go.Proofs.YtcmiehddjgfjaaaGreatW.PrintLast Go.Proofs.YtcmiehddjgfjaaaGreatW.PrintMore
/-- W' came out of W by blocks laid and counts drawn. -/
class FwdW (W W' : World) : Prop where
  b : ∀ (g : Nat) (o : Obj), W.heap[g]? = some o → W'.heap[g]? = some o
  l : ∀ (w : World), Below w.heap.size w W → Below w.heap.size w W'
instance (W : World) : FwdW W W := ⟨fun _ _ h => h, fun _ h => h⟩
instance (W W' : World) (o : Obj) [f : FwdW W W'] : FwdW W (W'.alloc o) := ⟨fun g x h => blk_alloc (f.b g x h) o, fun w h => bal (f.l w h) o⟩
instance (W W' : World) (n : Nat) [f : FwdW W W'] : FwdW W (W'.drewN n) := ⟨fun g x h => blk_drewN (f.b g x h) n, fun w h => pbd (f.l w h) n⟩
instance (W W' : World) [f : FwdW W W'] : FwdW W W'.drew := ⟨fun g x h => blk_drew (f.b g x h), fun w h => (f.l w h).drew⟩
theorem blkF {W W' : World} {g : Nat} {o : Obj} (h : W.heap[g]? = some o) [f : FwdW W W'] : W'.heap[g]? = some o := f.b g o h
theorem blwF {w W W' : World} (h : Below w.heap.size w W) [f : FwdW W W'] : Below w.heap.size w W' := f.l w h
theorem fwK {W W' : World} {g : Nat} {o : Obj} (h : Sd (W.heap[g]? = some o)) [f : FwdW W W'] : Sd (W'.heap[g]? = some o) := ⟨f.b g o h.out⟩
/-- One step: a block laid, or a count drawn. -/
class StW (W : outParam World) (W' : World) : Prop where
  b : Below W.heap.size W W'
instance (W : World) (o : Obj) : StW W (W.alloc o) := ⟨bal (Below.refl _ _) o⟩
instance (W : World) (n : Nat) : StW W (W.drewN n) := ⟨pbd (Below.refl _ _) n⟩
instance (W : World) : StW W W.drew := ⟨(Below.refl _ _).drew⟩
theorem dw {W W' : World} [s : StW W W'] {g : Nat} {o : Obj} (h : W.heap[g]? = some o) : W'.heap[g]? = some o := blk_below h s.b
theorem dR {W W' : World} [s : StW W W'] {α : Type} {d : Kd α} {e base : Nat} {ok : Nat → Prop} {v : Value} {xs : List α} (h : d.R e W base ok v xs) : d.R e W' base ok v xs := Kd.R_below h s.b
theorem bbl {w W : World} (h : Below w.heap.size w W := by repeat (first | exact Sd.out (by with_reducible assumption) | with_reducible apply bal | with_reducible apply pbd | with_reducible apply bd1 | with_reducible refine bst ?_ (Sd.out (by with_reducible assumption)) | exact Sd.out (by assumption))) : Below w.heap.size w W := h
theorem bsq (w : World) {W W2 : World} (k : Below W.heap.size W W2) (h : Below w.heap.size w W := by exact bbl) : Sd (Below w.heap.size w W2) := ⟨below_step h k⟩
theorem bge (w : World) {W : World} {g : Nat} (hg : g = W.heap.size) (h : Below w.heap.size w W := by exact bbl) : Sd (w.heap.size ≤ g) := ⟨hg ▸ h.size⟩
theorem bkb {W W1 W2 : World} {g : Nat} {o : Obj} (h : Sd (W.heap[g]? = some o)) (hb : Below W1.heap.size W1 W2) [f : FwdW W W1] : Sd (W2.heap[g]? = some o) := ⟨blk_below (f.b g o h.out) hb⟩
theorem bnl {W W' : World} {g g' : Nat} {o : Obj} (h : Sd (W.heap[g]? = some o)) (hg : g' = W'.heap.size) [f : FwdW W W'] : Sd (g ≠ g') := ⟨by rw [hg]; exact Nat.ne_of_lt (blk_lt (f.b g o h.out))⟩
theorem bng {W W' : World} {g g' : Nat} {o : Obj} (h : Sd (W.heap[g]? = some o)) (hg : g' = W'.heap.size) [f : FwdW W W'] : Sd (g' ≠ g) := ⟨by rw [hg]; exact Nat.ne_of_gt (blk_lt (f.b g o h.out))⟩
theorem bz0 {W : World} {g t : Nat} {u : Value} {l : List Value} (h : Sd (W.heap[g]? = some (.cells (List.toArray (u :: l)) t (0, 0)))) : W.cell? ⟨g, 0, none⟩ = some u := blk_cell h.out 0
theorem bz1 {W : World} {g t : Nat} {u v : Value} {l : List Value} (h : Sd (W.heap[g]? = some (.cells (List.toArray (u :: v :: l)) t (0, 0)))) : W.cell? ⟨g, 1, none⟩ = some v := blk_cell h.out 1
theorem bz2 {W : World} {g t : Nat} {u v x : Value} {l : List Value} (h : Sd (W.heap[g]? = some (.cells (List.toArray (u :: v :: x :: l)) t (0, 0)))) : W.cell? ⟨g, 2, none⟩ = some x := blk_cell h.out 2
theorem bz {W : World} {g t : Nat} {u v : Value} (h : Sd (W.heap[g]? = some (.cells (List.toArray [u, v]) t (0, 0)))) : W.cell? ⟨g, 0, none⟩ = some u ∧ W.cell? ⟨g, 1, none⟩ = some v ∧ W.frozen? ⟨g, 0, none⟩ = false ∧ W.frozen? ⟨g, 1, none⟩ = false := ⟨blk_cell h.out 0, blk_cell h.out 1, blk_frozen h.out 0, blk_frozen h.out 1⟩
theorem fe {α : Sort _} {a b : α} (h : a = b := by first | rfl | (simp [errW_none, errW_some] <;> rfl) | (simp [*, errW_none, errW_some] <;> rfl)) : a = b := h
theorem ae {α : Sort _} {a b : α} (h : a = b := by first | rfl | (simp; done) | (simp [*]; done)) : a = b := h
theorem ma {α : Sort _} {a b : α} (h : a = b := by ((try simp only [List.map_toArray, List.map_cons, List.map_nil]); first | done | rfl | (simp only [List.length_drop, List.length_take]; rfl))) : a = b := h
theorem brb {W W1 W2 : World} {α : Type} {d : Kd α} {e base : Nat} {ok : Nat → Prop} {v : Value} {xs : List α} (h : Sd (d.R e W base ok v xs)) (hb : Below W1.heap.size W1 W2) [f : FwdW W W1] : Sd (d.R e W2 base ok v xs) := ⟨Kd.R_below (Kd.R_below h.out (f.l W (Below.refl _ _))) hb⟩
theorem fwR {W W1 : World} {α : Type} {d : Kd α} {e base : Nat} {ok : Nat → Prop} {v : Value} {xs : List α} (h : Sd (d.R e W base ok v xs)) [f : FwdW W W1] : Sd (d.R e W1 base ok v xs) := ⟨Kd.R_below h.out (f.l W (Below.refl _ _))⟩
theorem bnd {α β : Type} {x : Option α} {f : α → Option β} {r : β} (h : x.bind f = some r) : ∃ t, Sd (x = some t) ∧ f t = some r := by obtain ⟨t, h1, h2⟩ := Option.bind_eq_some_iff.mp h; exact ⟨t, ⟨h1⟩, h2⟩
theorem ode {p : Prop} [d : Decidable p] (h : decide p = true := by first | (with_reducible assumption) | assumption) : p := of_decide_eq_true h
theorem hxc {w W : World} {a : Addr} {v : Value} (h : Sd (Below w.heap.size w W)) (k : w.cell? a = some v) : W.cell? a = some v := (h.out.cell (World.block_lt_of_cell? w _ k)).trans k
theorem iT {α : Type} {d : Decidable (true = true)} {a b r : α} (h : @ite α (true = true) d a b = r) : a = r := by rw [if_pos rfl] at h; exact h
theorem iF {α : Type} {d : Decidable (false = true)} {a b r : α} (h : @ite α (false = true) d a b = r) : b = r := by rw [if_neg Bool.false_ne_true] at h; exact h
theorem zso {α : Type} {a b : α} (h : some a = some b) : a = b := Option.some.inj h
theorem zs2 {α β : Type} {a x : α} {b y : β} (h : some (a, b) = some (x, y)) : a = x ∧ b = y := by simpa using h
theorem zs3 {α β γ : Type} {a x : α} {b y : β} {c z : γ} (h : some (a, b, c) = some (x, y, z)) : a = x ∧ b = y ∧ c = z := by simpa using h
theorem znf {b : Bool} (h : ¬ b = true) : b = false := Bool.eq_false_iff.mpr h
theorem zdr {w w' : World} (h : Drawn0 w w' := by repeat (first | exact Drawn0.refl _ | apply Drawn0.step)) : Drawn0 w w' := h
theorem zsB (w : World) : Sd (Below w.heap.size w w) := ⟨Below.refl _ _⟩
theorem zcb {w : World} {c : Addr} {v : Value} {b g : Nat} (h : w.cell? c = some v) (hg : Sd (w.heap.size ≤ g)) (k : c.block = b := by first | rfl | exact add_block _ _ | (rw [add_block]; done) | (simp [add_block]; done)) : b ≠ g := k ▸ Nat.ne_of_lt (Nat.lt_of_lt_of_le (World.block_lt_of_cell? _ _ h) hg.out)
theorem zpz : (∀ (a : Act) (d : Tmp) (v : Value), a.put (some d) v = { a with tmps := a.tmps.setIfInBounds d v }) ∧ (∀ (a : Act) (v : Value), a.put none v = a) ∧ (∀ (l : List Value) (i : Nat) (v : Value), l.toArray.setIfInBounds i v = (l.set i v).toArray) ∧ (∀ (u v : Value) (l : List Value), (u :: l).set 0 v = v :: l) ∧ (∀ (u v : Value) (l : List Value) (n : Nat), (u :: l).set (n + 1) v = u :: l.set n v) ∧ (∀ n : Int, IntKind.i64.wrap n = wrap64 n) ∧ (∀ n : Int, IntKind.i32.wrap n = wrap32 n) := ⟨fun _ _ _ => rfl, fun _ _ => rfl, fun _ _ _ => List.setIfInBounds_toArray .., fun _ _ _ => rfl, fun _ _ _ _ => rfl, i64_w, i32_w⟩
section
variable {P : Program} {ops : Array Oper} {rest : List Oper} {o : Oper} {a : Act} {Q : Exit → Act → World → Prop}
theorem bxe {W : World} {N : Tmp} {cs : Array Value} {t : TypeId} (h : ∀ g, g = W.heap.size → ∀ w1, w1.heap[g]? = some (.cells cs t (0, 0)) → Below W.heap.size W w1 → wpList P ops Q rest (a.put o.dst (.pointer (some ⟨g, 0, none⟩))) w1) (hgd : o.guard = none := by rfl) (hd : o.dst = some N := by rfl)
    (hrun : (execOp a.eval o).run P W = .ok (.value (.pointer (some ⟨W.heap.size, 0, none⟩))) (W.alloc (.cells cs t (0, 0))) := by first | (go_simp; done) | (go_simp; rfl)) : wpList P ops Q (o :: rest) a W := box_event hgd hd hrun h
end
end Go.Proofs.YtcmiehddjgfjaaaGreat.A
namespace Go.Proofs.YtcmiehddjgfjaaaGreat.A
open Go.RowKit Go.Proofs.YtcmiehddjgfjaaaGreatW.PrintWords Go.Proofs.YtcmiehddjgfjaaaGreatW.PrintLast Go.Proofs.YtcmiehddjgfjaaaGreatW.PrintMore
attribute [local go_sem] max2_int min2_int max_two min_two max_three min_three max_four min_four   -- for this text's walks alone
def errW : Option Int → Value
 | none => .nilIface
 | some c => .iface 0 (.int .i64 c)
theorem errW_none : errW none = .nilIface := rfl
theorem errW_some (c : Int) : errW (some c) = .iface 0 (.int .i64 c) := rfl
theorem info25 : (Tryz.prog.info? 25).map (fun i => (i.zero, i.size, i.bytes)) = some (some (.agg #[(.int .i64 0), (.int .i64 0)]), 2, 16) := by kernel_rfl
theorem info37 : (Tryz.prog.info? 37).map (fun i => (i.zero, i.size, i.bytes)) = some (some (.agg #[(.slice none 0 0), (.int .i64 0), (.int .i64 0)]), 3, 40) := by kernel_rfl
theorem info39 : (Tryz.prog.info? 39).map (fun i => (i.zero, i.size, i.bytes)) = some (some (.agg #[(.int .i64 0), (.int .i64 0), (.int .i64 0)]), 3, 24) := by kernel_rfl
theorem info62 : (Tryz.prog.info? 62).map (fun i => (i.zero, i.size, i.bytes)) = some (some (.agg #[(.string ⟨#[]⟩), (.string ⟨#[]⟩)]), 2, 32) := by kernel_rfl
structure S25 where
 f0 : Int
 f1 : Int
def z25 : S25 := ⟨(0 : Int), (0 : Int)⟩
def k25 : Kd S25 := Kd.iso (Kd.pair (Kd.int .i64) (Kd.int .i64)) (fun x : S25 => (x.f0, x.f1))
theorem k25_open {w : World} {x : S25} {cs : List Value} (h : k25.K w x cs) : cs = [.int .i64 x.f0, .int .i64 x.f1] := by
 obtain ⟨_, _, rfl, rfl, rfl⟩ := h
 exact rfl
theorem k25_openM {w : World} {base : Nat} {ok : Nat → Prop} {x : S25} {cs : List Value} (h : k25.M w base ok x cs) : cs = [.int .i64 x.f0, .int .i64 x.f1] := by
 obtain ⟨_, _, rfl, rfl, rfl⟩ := h
 exact rfl
theorem k25_mk (w : World) (x : S25)  : k25.K w x [.int .i64 x.f0, .int .i64 x.f1] := ⟨[.int .i64 x.f0], [.int .i64 x.f1], rfl, rfl, rfl⟩
theorem k25_mkM (w : World) (base : Nat) (ok : Nat → Prop) (x : S25)  : k25.M w base ok x [.int .i64 x.f0, .int .i64 x.f1] := ⟨[.int .i64 x.f0], [.int .i64 x.f1], rfl, rfl, rfl⟩
def rd_T25 (xs : List S25) (i : Int) : S25 := xs.getD i.toNat z25
theorem at_T25 {w : World} {A : Option Addr} {n : Nat} {xs : List S25} (h : Kd.C k25 w A n xs) (i : Int) (h0 : 0 ≤ i) (h1 : i < n) : ∃ ad , A = some ad ∧ w.cell? (ad.add (i.toNat * 2)) = some (.int .i64 (rd_T25 xs i).f0) ∧ w.cell? ⟨(ad.add (i.toNat * 2)).block, (ad.add (i.toNat * 2)).off + 1, none⟩ = some (.int .i64 (rd_T25 xs i).f1) := by
 obtain ⟨ad, c, e, _, hK, hc0⟩ := Kd.C_get h z25 i h0 h1
 have hc : ∀ j u, c[j]? = some u → w.cell? (ad.add (i.toNat * 2 + j)) = some u := hc0
 obtain rfl := k25_open hK
 exact ⟨ad, e, hc 0 _ rfl, by rw [← add_field _ _ 1 (by omega)]; exact hc 1 _ rfl⟩
structure S62 where
 f0 : ByteArray
 f1 : ByteArray
def z62 : S62 := ⟨(⟨#[]⟩ : ByteArray), (⟨#[]⟩ : ByteArray)⟩
def k62 : Kd S62 := Kd.iso (Kd.pair Kd.string Kd.string) (fun x : S62 => (x.f0, x.f1))
theorem k62_open {w : World} {x : S62} {cs : List Value} (h : k62.K w x cs) : cs = [.string x.f0, .string x.f1] := by
 obtain ⟨_, _, rfl, rfl, rfl⟩ := h
 exact rfl
theorem k62_openM {w : World} {base : Nat} {ok : Nat → Prop} {x : S62} {cs : List Value} (h : k62.M w base ok x cs) : cs = [.string x.f0, .string x.f1] := by
 obtain ⟨_, _, rfl, rfl, rfl⟩ := h
 exact rfl
theorem k62_mk (w : World) (x : S62)  : k62.K w x [.string x.f0, .string x.f1] := ⟨[.string x.f0], [.string x.f1], rfl, rfl, rfl⟩
theorem k62_mkM (w : World) (base : Nat) (ok : Nat → Prop) (x : S62)  : k62.M w base ok x [.string x.f0, .string x.f1] := ⟨[.string x.f0], [.string x.f1], rfl, rfl, rfl⟩
def rd_T62 (xs : List S62) (i : Int) : S62 := xs.getD i.toNat z62
theorem at_T62 {w : World} {A : Option Addr} {n : Nat} {xs : List S62} (h : Kd.C k62 w A n xs) (i : Int) (h0 : 0 ≤ i) (h1 : i < n) : ∃ ad , A = some ad ∧ w.cell? (ad.add (i.toNat * 2)) = some (.string (rd_T62 xs i).f0) ∧ w.cell? ⟨(ad.add (i.toNat * 2)).block, (ad.add (i.toNat * 2)).off + 1, none⟩ = some (.string (rd_T62 xs i).f1) := by
 obtain ⟨ad, c, e, _, hK, hc0⟩ := Kd.C_get h z62 i h0 h1
 have hc : ∀ j u, c[j]? = some u → w.cell? (ad.add (i.toNat * 2 + j)) = some u := hc0
 obtain rfl := k62_open hK
 exact ⟨ad, e, hc 0 _ rfl, by rw [← add_field _ _ 1 (by omega)]; exact hc 1 _ rfl⟩
structure S39 where
 f0 : Int
 f1 : S25
def z39 : S39 := ⟨(0 : Int), z25⟩
def k39 : Kd S39 := Kd.iso (Kd.pair (Kd.int .i64) k25) (fun x : S39 => (x.f0, x.f1))
theorem k39_open {w : World} {x : S39} {cs : List Value} (h : k39.K w x cs) : cs = [.int .i64 x.f0, .int .i64 x.f1.f0, .int .i64 x.f1.f1] := by
 obtain ⟨_, _, rfl, rfl, s1⟩ := h
 obtain rfl := k25_open s1
 exact rfl
theorem k39_openM {w : World} {base : Nat} {ok : Nat → Prop} {x : S39} {cs : List Value} (h : k39.M w base ok x cs) : cs = [.int .i64 x.f0, .int .i64 x.f1.f0, .int .i64 x.f1.f1] := by
 obtain ⟨_, _, rfl, rfl, s1⟩ := h
 obtain rfl := k25_openM s1
 exact rfl
theorem k39_mk (w : World) (x : S39)  : k39.K w x [.int .i64 x.f0, .int .i64 x.f1.f0, .int .i64 x.f1.f1] := ⟨[.int .i64 x.f0], [.int .i64 x.f1.f0, .int .i64 x.f1.f1], rfl, rfl, (k25_mk w x.f1 )⟩
theorem k39_mkM (w : World) (base : Nat) (ok : Nat → Prop) (x : S39)  : k39.M w base ok x [.int .i64 x.f0, .int .i64 x.f1.f0, .int .i64 x.f1.f1] := ⟨[.int .i64 x.f0], [.int .i64 x.f1.f0, .int .i64 x.f1.f1], rfl, rfl, (k25_mkM w base ok x.f1 )⟩
def rd_T39 (xs : List S39) (i : Int) : S39 := xs.getD i.toNat z39
theorem at_T39 {w : World} {A : Option Addr} {n : Nat} {xs : List S39} (h : Kd.C k39 w A n xs) (i : Int) (h0 : 0 ≤ i) (h1 : i < n) : ∃ ad , A = some ad ∧ w.cell? (ad.add (i.toNat * 3)) = some (.int .i64 (rd_T39 xs i).f0) ∧ w.cell? ⟨(ad.add (i.toNat * 3)).block, (ad.add (i.toNat * 3)).off + 1, none⟩ = some (.int .i64 (rd_T39 xs i).f1.f0) ∧ w.cell? ⟨(ad.add (i.toNat * 3)).block, (ad.add (i.toNat * 3)).off + 2, none⟩ = some (.int .i64 (rd_T39 xs i).f1.f1) := by
 obtain ⟨ad, c, e, _, hK, hc0⟩ := Kd.C_get h z39 i h0 h1
 have hc : ∀ j u, c[j]? = some u → w.cell? (ad.add (i.toNat * 3 + j)) = some u := hc0
 obtain rfl := k39_open hK
 exact ⟨ad, e, hc 0 _ rfl, by rw [← add_field _ _ 1 (by omega)]; exact hc 1 _ rfl, by rw [← add_field _ _ 2 (by omega)]; exact hc 2 _ rfl⟩
structure S37 where
 f0 : (List S62)
 f1 : S25
def z37 : S37 := ⟨([] : List S62), z25⟩
def k37 : Kd S37 := Kd.iso (Kd.pair (Kd.slice 62 k62) k25) (fun x : S37 => (x.f0, x.f1))
theorem k37_open {w : World} {x : S37} {cs : List Value} (h : k37.K w x cs) : ∃ A0 c0, cs = [.slice A0 x.f0.length c0, .int .i64 x.f1.f0, .int .i64 x.f1.f1] ∧ x.f0.length ≤ c0 ∧ k62.C w A0 x.f0.length x.f0 := by
 obtain ⟨_, _, rfl, ⟨A0, c0, rfl, l0, g0⟩, s1⟩ := h
 obtain rfl := k25_open s1
 exact ⟨A0, c0, rfl, l0, g0⟩
theorem k37_mk (w : World) (x : S37) {A0 : Option Addr} {c0 : Nat} (l0 : x.f0.length ≤ c0) (g0 : k62.C w A0 x.f0.length x.f0) : k37.K w x [.slice A0 x.f0.length c0, .int .i64 x.f1.f0, .int .i64 x.f1.f1] := ⟨[.slice A0 x.f0.length c0], [.int .i64 x.f1.f0, .int .i64 x.f1.f1], rfl, ⟨A0, c0, rfl, l0, g0⟩, (k25_mk w x.f1 )⟩
theorem k37_mkM (w : World) (base : Nat) (ok : Nat → Prop) (x : S37) {v0 : Value} (g0 : k62.R 62 w base ok v0 x.f0) : k37.M w base ok x [v0, .int .i64 x.f1.f0, .int .i64 x.f1.f1] := ⟨[v0], [.int .i64 x.f1.f0, .int .i64 x.f1.f1], rfl, ⟨v0, rfl, g0⟩, (k25_mkM w base ok x.f1 )⟩
def rd_T37 (xs : List S37) (i : Int) : S37 := xs.getD i.toNat z37
theorem at_T37 {w : World} {A : Option Addr} {n : Nat} {xs : List S37} (h : Kd.C k37 w A n xs) (i : Int) (h0 : 0 ≤ i) (h1 : i < n) : ∃ ad A0 c0, A = some ad ∧ w.cell? (ad.add (i.toNat * 3)) = some (.slice A0 (rd_T37 xs i).f0.length c0) ∧ w.cell? ⟨(ad.add (i.toNat * 3)).block, (ad.add (i.toNat * 3)).off + 1, none⟩ = some (.int .i64 (rd_T37 xs i).f1.f0) ∧ w.cell? ⟨(ad.add (i.toNat * 3)).block, (ad.add (i.toNat * 3)).off + 2, none⟩ = some (.int .i64 (rd_T37 xs i).f1.f1) ∧ (rd_T37 xs i).f0.length ≤ c0 ∧ k62.C w A0 (rd_T37 xs i).f0.length (rd_T37 xs i).f0 := by
 obtain ⟨ad, c, e, _, hK, hc0⟩ := Kd.C_get h z37 i h0 h1
 have hc : ∀ j u, c[j]? = some u → w.cell? (ad.add (i.toNat * 3 + j)) = some u := hc0
 obtain ⟨A0, c0, rfl, l0, g0⟩ := k37_open hK
 exact ⟨ad, A0, c0, e, hc 0 _ rfl, by rw [← add_field _ _ 1 (by omega)]; exact hc 1 _ rfl, by rw [← add_field _ _ 2 (by omega)]; exact hc 2 _ rfl, l0, g0⟩
theorem wrap_in {n : Int} (h0 : -9223372036854775808 ≤ n) (h1 : n ≤ 9223372036854775807) : wrap64 n = n := by unfold wrap64; omega
theorem wrap_nat {i : Nat} (h : i < 9223372036854775807) : wrap64 ((i : Int) + 1) = ((i + 1 : Nat) : Int) := by rw [wrap_in (by omega) (by omega)]; omega
/-- May a byte stand there in a name? -/
def okP (x c : Int) : Prop := (97 ≤ c ∧ c ≤ 122) ∨ (65 ≤ c ∧ c ≤ 90) ∨ c = 95 ∨ (0 < x ∧ 48 ≤ c ∧ c ≤ 57)
instance (x c : Int) : Decidable (okP x c) := by unfold okP; exact inferInstance
def okAll (s : ByteArray) (i : Nat) : Nat → Bool
 | 0 => true
 | d + 1 => decide (okP (i : Int) (bt s (i : Int))) && okAll s (i + 1) d
/-- Is a text a name? -/
def isName (s : ByteArray) : Bool := decide (0 < s.size) && decide (s.size ≤ 64) && okAll s 0 s.size
theorem okAll_step (s : ByteArray) (i d : Nat) : okAll s i (d + 1) = (decide (okP (i : Int) (bt s (i : Int))) && okAll s (i + 1) d) := rfl
theorem rname_calls (s : ByteArray) (hs : s.size < 9223372036854775807) (w : World) : Calls Tryz.prog 154 #[.string s] w fun e w' => e = .returned (.bool (isName s)) ∧ w = w' := by
 have HD := Sd.mk (show isName s = (decide (0 < s.size) && decide (s.size ≤ 64) && okAll s 0 s.size) from rfl)
 by_cases h1 : s.size < 1
 ·have b1 : decide ((s.size : Int) < 1) = true := decide_eq_true (by omega)
  have b2 : decide (s.size < 1) = true := decide_eq_true h1
  have HR := Sd.mk (show isName s = false by rw [HD.out, decide_eq_false (show ¬ 0 < s.size by omega)]; rfl)
  clear HD
  go_enter Tryz.func154, Tryz.ntmps154
  go_wp2
  go_ret
  exact ⟨by rw [HR.out]; rfl, rfl⟩
 ·have b1 : decide ((s.size : Int) < 1) = false := decide_eq_false (by omega)
  have b2 : decide (s.size < 1) = false := decide_eq_false h1
  by_cases h2 : 64 < s.size
  ·have b3 : decide ((s.size : Int) > 64) = true := decide_eq_true (by omega)
   have b4 : decide (64 < s.size) = true := decide_eq_true h2
   have HR := Sd.mk (show isName s = false by rw [HD.out, decide_eq_false (show ¬ s.size ≤ 64 by omega), Bool.and_false]; rfl)
   clear HD
   go_enter Tryz.func154, Tryz.ntmps154
   go_wp2
   go_ret
   exact ⟨by rw [HR.out]; rfl, rfl⟩
  ·have b3 : decide ((s.size : Int) > 64) = false := decide_eq_false (by omega)
   have b4 : decide (64 < s.size) = false := decide_eq_false h2
   have HR := Sd.mk (show isName s = okAll s 0 s.size by rw [HD.out, decide_eq_true (show 0 < s.size by omega), decide_eq_true (show s.size ≤ 64 by omega)]; rfl)
   clear HD
   have hm : s.size ≤ 64 := by omega
   go_enter Tryz.func154, Tryz.ntmps154
   go_wp2
   go_loop [3] (fun v3 => ∃ i : Nat, i ≤ s.size ∧ v3 = .int .i64 i ∧ Sd (okAll s 0 s.size = okAll s i (s.size - i))) (fun v3 => s.size - (intOf v3).toNat)
   case atStart => exact ⟨0, Nat.zero_le _, rfl, ⟨rfl⟩⟩
   case round =>
    obtain ⟨i, hi, rfl, HA⟩ := hrel
    by_cases hlt : i < s.size
    ·obtain ⟨c, hc⟩ : ∃ c : Int, ((s[i]'hlt).toNat : Int) = c := ⟨_, rfl⟩
     have hbt : bt s (i : Int) = c := by rw [← hc]; unfold bt; rw [dif_pos (by simpa using hlt)]; simp
     have hr : 0 ≤ c ∧ c ≤ 255 := by rw [← hbt]; exact bt_range s i
     have HS : okAll s 0 s.size = (decide (okP (i : Int) c) && okAll s (i + 1) (s.size - (i + 1))) := by rw [HA.out, show s.size - i = s.size - (i + 1) + 1 by omega, okAll_step, hbt]
     have HS := Sd.mk HS
     go_upto_region 7 with (fail)
     clear hbt hc HA
     by_cases k0 : 97 ≤ c ∧ c ≤ 122
     ·have b97 : decide (97 ≤ c) = true := by simp; omega
      have b122 : decide (c ≤ 122) = true := by simp; omega
      have b65 : decide (65 ≤ c) = true := by simp; omega
      have b90 : decide (c ≤ 90) = false := by simp; omega
      have b48 : decide (48 ≤ c) = true := by simp; omega
      have b57 : decide (c ≤ 57) = false := by simp; omega
      have b95 : (c == 95) = false := by simp; omega
      have HN := Sd.mk (show okAll s 0 s.size = okAll s (i + 1) (s.size - (i + 1)) by rw [HS.out, decide_eq_true (show okP (i : Int) c by unfold okP; omega), Bool.true_and])
      clear HS
      go_wp2
      go_round
      case rel => exact ⟨i + 1, by omega, by go_num, HN⟩
      case measure => simp [intOf]; omega
     by_cases k1 : 122 < c ∧ 0 < i
     ·have b97 : decide (97 ≤ c) = true := by simp; omega
      have b122 : decide (c ≤ 122) = false := by simp; omega
      have b65 : decide (65 ≤ c) = true := by simp; omega
      have b90 : decide (c ≤ 90) = false := by simp; omega
      have b48 : decide (48 ≤ c) = true := by simp; omega
      have b57 : decide (c ≤ 57) = false := by simp; omega
      have b95 : (c == 95) = false := by simp; omega
      have bi : decide (0 < (i : Int)) = true := by simp; omega
      have HN := Sd.mk (show isName s = false by rw [HR.out, HS.out, decide_eq_false (show ¬ okP (i : Int) c by unfold okP; omega), Bool.false_and])
      clear HS
      go_wp2
      go_ret
      exact ⟨by rw [HN.out]; rfl, rfl⟩
     by_cases k2 : 122 < c ∧ i = 0
     ·have b97 : decide (97 ≤ c) = true := by simp; omega
      have b122 : decide (c ≤ 122) = false := by simp; omega
      have b65 : decide (65 ≤ c) = true := by simp; omega
      have b90 : decide (c ≤ 90) = false := by simp; omega
      have b48 : decide (48 ≤ c) = true := by simp; omega
      have b57 : decide (c ≤ 57) = false := by simp; omega
      have b95 : (c == 95) = false := by simp; omega
      have bi : decide (0 < (i : Int)) = false := by simp; omega
      have HN := Sd.mk (show isName s = false by rw [HR.out, HS.out, decide_eq_false (show ¬ okP (i : Int) c by unfold okP; omega), Bool.false_and])
      clear HS
      go_wp2
      go_ret
      exact ⟨by rw [HN.out]; rfl, rfl⟩
     by_cases k3 : 65 ≤ c ∧ c ≤ 90
     ·have b97 : decide (97 ≤ c) = false := by simp; omega
      have b122 : decide (c ≤ 122) = true := by simp; omega
      have b65 : decide (65 ≤ c) = true := by simp; omega
      have b90 : decide (c ≤ 90) = true := by simp; omega
      have b48 : decide (48 ≤ c) = true := by simp; omega
      have b57 : decide (c ≤ 57) = false := by simp; omega
      have b95 : (c == 95) = false := by simp; omega
      have HN := Sd.mk (show okAll s 0 s.size = okAll s (i + 1) (s.size - (i + 1)) by rw [HS.out, decide_eq_true (show okP (i : Int) c by unfold okP; omega), Bool.true_and])
      clear HS
      go_wp2
      go_round
      case rel => exact ⟨i + 1, by omega, by go_num, HN⟩
      case measure => simp [intOf]; omega
     by_cases k4 : c = 95
     ·obtain rfl := k4
      have HN := Sd.mk (show okAll s 0 s.size = okAll s (i + 1) (s.size - (i + 1)) by rw [HS.out, decide_eq_true (show okP (i : Int) 95 by unfold okP; omega), Bool.true_and])
      clear HS
      go_wp2
      go_round
      case rel => exact ⟨i + 1, by omega, by go_num, HN⟩
      case measure => simp [intOf]; omega
     by_cases k5 : ((91 ≤ c ∧ c ≤ 94) ∨ c = 96) ∧ 0 < i
     ·have b97 : decide (97 ≤ c) = false := by simp; omega
      have b122 : decide (c ≤ 122) = true := by simp; omega
      have b65 : decide (65 ≤ c) = true := by simp; omega
      have b90 : decide (c ≤ 90) = false := by simp; omega
      have b48 : decide (48 ≤ c) = true := by simp; omega
      have b57 : decide (c ≤ 57) = false := by simp; omega
      have b95 : (c == 95) = false := by simp; omega
      have bi : decide (0 < (i : Int)) = true := by simp; omega
      have HN := Sd.mk (show isName s = false by rw [HR.out, HS.out, decide_eq_false (show ¬ okP (i : Int) c by unfold okP; omega), Bool.false_and])
      clear HS
      go_wp2
      go_ret
      exact ⟨by rw [HN.out]; rfl, rfl⟩
     by_cases k6 : ((91 ≤ c ∧ c ≤ 94) ∨ c = 96) ∧ i = 0
     ·have b97 : decide (97 ≤ c) = false := by simp; omega
      have b122 : decide (c ≤ 122) = true := by simp; omega
      have b65 : decide (65 ≤ c) = true := by simp; omega
      have b90 : decide (c ≤ 90) = false := by simp; omega
      have b48 : decide (48 ≤ c) = true := by simp; omega
      have b57 : decide (c ≤ 57) = false := by simp; omega
      have b95 : (c == 95) = false := by simp; omega
      have bi : decide (0 < (i : Int)) = false := by simp; omega
      have HN := Sd.mk (show isName s = false by rw [HR.out, HS.out, decide_eq_false (show ¬ okP (i : Int) c by unfold okP; omega), Bool.false_and])
      clear HS
      go_wp2
      go_ret
      exact ⟨by rw [HN.out]; rfl, rfl⟩
     by_cases k7 : c < 65 ∧ i = 0
     ·have b97 : decide (97 ≤ c) = false := by simp; omega
      have b122 : decide (c ≤ 122) = true := by simp; omega
      have b65 : decide (65 ≤ c) = false := by simp; omega
      have b90 : decide (c ≤ 90) = true := by simp; omega
      have b95 : (c == 95) = false := by simp; omega
      have bi : decide (0 < (i : Int)) = false := by simp; omega
      have HN := Sd.mk (show isName s = false by rw [HR.out, HS.out, decide_eq_false (show ¬ okP (i : Int) c by unfold okP; omega), Bool.false_and])
      clear HS
      go_wp2
      go_ret
      exact ⟨by rw [HN.out]; rfl, rfl⟩
     by_cases k8 : 58 ≤ c ∧ c < 65 ∧ 0 < i
     ·have b97 : decide (97 ≤ c) = false := by simp; omega
      have b122 : decide (c ≤ 122) = true := by simp; omega
      have b65 : decide (65 ≤ c) = false := by simp; omega
      have b90 : decide (c ≤ 90) = true := by simp; omega
      have b48 : decide (48 ≤ c) = true := by simp; omega
      have b57 : decide (c ≤ 57) = false := by simp; omega
      have b95 : (c == 95) = false := by simp; omega
      have bi : decide (0 < (i : Int)) = true := by simp; omega
      have HN := Sd.mk (show isName s = false by rw [HR.out, HS.out, decide_eq_false (show ¬ okP (i : Int) c by unfold okP; omega), Bool.false_and])
      clear HS
      go_wp2
      go_ret
      exact ⟨by rw [HN.out]; rfl, rfl⟩
     by_cases k9 : 48 ≤ c ∧ c ≤ 57 ∧ 0 < i
     ·have b97 : decide (97 ≤ c) = false := by simp; omega
      have b122 : decide (c ≤ 122) = true := by simp; omega
      have b65 : decide (65 ≤ c) = false := by simp; omega
      have b90 : decide (c ≤ 90) = true := by simp; omega
      have b48 : decide (48 ≤ c) = true := by simp; omega
      have b57 : decide (c ≤ 57) = true := by simp; omega
      have b95 : (c == 95) = false := by simp; omega
      have bi : decide (0 < (i : Int)) = true := by simp; omega
      have HN := Sd.mk (show okAll s 0 s.size = okAll s (i + 1) (s.size - (i + 1)) by rw [HS.out, decide_eq_true (show okP (i : Int) c by unfold okP; omega), Bool.true_and])
      clear HS
      go_wp2
      go_round
      case rel => exact ⟨i + 1, by omega, by go_num, HN⟩
      case measure => simp [intOf]; omega
     by_cases k10 : c < 48 ∧ 0 < i
     ·have b97 : decide (97 ≤ c) = false := by simp; omega
      have b122 : decide (c ≤ 122) = true := by simp; omega
      have b65 : decide (65 ≤ c) = false := by simp; omega
      have b90 : decide (c ≤ 90) = true := by simp; omega
      have b48 : decide (48 ≤ c) = false := by simp; omega
      have b57 : decide (c ≤ 57) = true := by simp; omega
      have b95 : (c == 95) = false := by simp; omega
      have bi : decide (0 < (i : Int)) = true := by simp; omega
      have HN := Sd.mk (show isName s = false by rw [HR.out, HS.out, decide_eq_false (show ¬ okP (i : Int) c by unfold okP; omega), Bool.false_and])
      clear HS
      go_wp2
      go_ret
      exact ⟨by rw [HN.out]; rfl, rfl⟩
     exact absurd hr (by omega)
    ·have HZ := Sd.mk (show isName s = true by rw [HR.out, HA.out, show s.size - i = 0 by omega]; rfl)
     go_wp2
     go_ret
     exact ⟨by rw [HZ.out]; rfl, rfl⟩
mutual
def lb_nameOK.l0 : Nat → ByteArray → Int → Int → Option (Bool)
 | 0, _, _, _ => none
 | k + 1, x0, x6, x7 => if x7 < x6 then (if 0 ≤ x7 then (if x7 < (x0.size : Int) then (if (bt x0 x7) ≥ 97 then (lb_nameOK.j1 k x0 x7 (bt x0 x7) x6 x7 (decide ((bt x0 x7) ≤ 122))) else (lb_nameOK.j1 k x0 x7 (bt x0 x7) x6 x7 false)) else (none)) else (none)) else (if x0.toList = ([] : List UInt8) then (some false) else (some (decide ((x0.size : Int) ≤ 64))))
def lb_nameOK.j1 : Nat → ByteArray → Int → Int → Int → Int → Bool → Option (Bool)
 | 0, _, _, _, _, _, _ => none
 | k + 1, x0, x3, x4, x6, x7, x13 => if x13 = true then (lb_nameOK.l0 k x0 x6 (wrap64 (x7 + 1))) else (if x4 ≥ 65 then (lb_nameOK.j2 k x0 x3 x4 x6 x7 (decide (x4 ≤ 90))) else (lb_nameOK.j2 k x0 x3 x4 x6 x7 false))
def lb_nameOK.j2 : Nat → ByteArray → Int → Int → Int → Int → Bool → Option (Bool)
 | 0, _, _, _, _, _, _ => none
 | k + 1, x0, x3, x4, x6, x7, x13 => if x13 = true then (lb_nameOK.l0 k x0 x6 (wrap64 (x7 + 1))) else (if x4 = 95 then (lb_nameOK.l0 k x0 x6 (wrap64 (x7 + 1))) else (if x3 > 0 then (if x4 ≥ 48 then (if x4 ≤ 57 then (lb_nameOK.l0 k x0 x6 (wrap64 (x7 + 1))) else (some false)) else (some false)) else (some false)))
end
def lb_nameOK.f (k : Nat) (a0 : ByteArray) : Option (Bool) := lb_nameOK.l0 k a0 (a0.size : Int) 0
theorem lb_nameOK.calls (k : Nat) (a0 : ByteArray) (r : Bool) (w : World) (h : lb_nameOK.f k a0 = some r) :
  Calls Tryz.prog 143 #[.string a0] w fun e w' => e = .returned (.bool r) ∧ Drawn0 w w' := by
 have H : (lb_nameOK.l0 k a0 (a0.size : Int) 0) = some r := h
 clear h
 have H' := Sd.mk H
 clear H
 go_enter Tryz.func143, Tryz.ntmps143
 go_wp2
 go_loopg [7] k (fun kq v7 w' => ∃ (x7_1 : Int), v7 = .int .i64 x7_1 ∧ Sd (lb_nameOK.l0 kq a0 (a0.size : Int) x7_1 = some r) ∧ Sd (kq ≤ k) ∧ Drawn0 w w')
 case atStart => exact ⟨(0), ae, H', ⟨Nat.le_refl _⟩, zdr⟩
 case round =>
  clear H'
  obtain ⟨x7_1, rfl, HA, HK1, ⟨m1, rfl⟩⟩ := hrel
  cases gk with
  | zero => exact absurd HA.out (by simp [lb_nameOK.l0])
  | succ k1 =>
   have H := HA.out
   clear HA
   simp only [lb_nameOK.l0] at H
   by_cases c2 : x7_1 < (a0.size : Int)
   ·rw [if_pos c2] at H
    have c2b0 : decide (x7_1 < (a0.size : Int)) = true := decide_eq_true c2
    clear c2
    by_cases c3 : 0 ≤ x7_1
    ·rw [if_pos c3] at H
     have c3b0 : decide (0 ≤ x7_1) = true := decide_eq_true c3
     clear c3
     by_cases c4 : x7_1 < (a0.size : Int)
     ·rw [if_pos c4] at H
      have c4b0 : decide (x7_1 < (a0.size : Int)) = true := decide_eq_true c4
      clear c4
      have HC6 := Sd.mk H
      clear H
      have p5 : 0 ≤ (x7_1 : Int) := ode
      have q5 : x7_1 < (a0.size : Int) := ode
      have hx5 := bt_at a0 x7_1
      replace p5 := eq_true p5
      replace q5 := eq_true q5
      go_upto_region 6 with (fail)
      go_cut [13] (fun v13 wc => ∃ (kq : Nat) (x13_5 : Bool), v13 = .bool x13_5 ∧ Sd (lb_nameOK.j1 kq a0 x7_1 (bt a0 x7_1) (a0.size : Int) x7_1 x13_5 = some r) ∧ Sd (kq ≤ k1) ∧ Drawn0 w wc)
      case first =>
       have H := HC6.out
       clear HC6
       by_cases c7 : (bt a0 x7_1) ≥ 97
       ·rw [if_pos c7] at H
        have c7b0 : decide (97 ≤ (bt a0 x7_1)) = true := decide_eq_true c7
        clear c7
        (first | rw [c7b0] | (simp only [i64_w, i32_w]; rw [c7b0]) | skip)
        have H' := Sd.mk H
        clear H
        go_wp2
        go_meet
        case rel => exact ⟨_, (decide ((bt a0 x7_1) ≤ 122)), ae, H', ⟨by have := HK1.out; first | omega | exact Nat.le_refl _⟩, zdr⟩
       ·rw [if_neg c7] at H
        have c7b0 : decide (97 ≤ (bt a0 x7_1)) = false := decide_eq_false c7
        clear c7
        (first | rw [c7b0] | (simp only [i64_w, i32_w]; rw [c7b0]) | skip)
        have H' := Sd.mk H
        clear H
        go_wp2
        go_meet
        case rel => exact ⟨_, (false), ae, H', ⟨by have := HK1.out; first | omega | exact Nat.le_refl _⟩, zdr⟩
      case rest =>
       clear HC6
       obtain ⟨kq, x13_5, rfl, HA, HJ5, ⟨mc5, rfl⟩⟩ := hcut
       cases kq with
       | zero => exact absurd HA.out (by simp [lb_nameOK.j1])
       | succ kj5 =>
        have H := HA.out
        clear HA
        simp only [lb_nameOK.j1] at H
        by_cases c8 : x13_5 = true
        ·subst c8
         replace H := iT H
         have H' := Sd.mk H
         clear H
         go_wp2
         go_roundg kj5
         case measure => have := HK1.out; have := HJ5.out; omega
         case rel => exact ⟨(wrap64 (x7_1 + 1)), ae, H', ⟨by have := HK1.out; have := HJ5.out; omega⟩, zdr⟩
        ·replace c8 := znf c8
         subst c8
         replace H := iF H
         have HC9 := Sd.mk H
         clear H
         go_upto_region 7 with (fail)
         go_cut [13] (fun v13 wc => ∃ (kq : Nat) (x13_8 : Bool), v13 = .bool x13_8 ∧ Sd (lb_nameOK.j2 kq a0 x7_1 (bt a0 x7_1) (a0.size : Int) x7_1 x13_8 = some r) ∧ Sd (kq ≤ kj5) ∧ Drawn0 w wc)
         case first =>
          have H := HC9.out
          clear HC9
          by_cases c10 : (bt a0 x7_1) ≥ 65
          ·rw [if_pos c10] at H
           have c10b0 : decide (65 ≤ (bt a0 x7_1)) = true := decide_eq_true c10
           clear c10
           (first | rw [c10b0] | (simp only [i64_w, i32_w]; rw [c10b0]) | skip)
           have H' := Sd.mk H
           clear H
           go_wp2
           go_meet
           case rel => exact ⟨_, (decide ((bt a0 x7_1) ≤ 90)), ae, H', ⟨by have := HK1.out; have := HJ5.out; first | omega | exact Nat.le_refl _⟩, zdr⟩
          ·rw [if_neg c10] at H
           have c10b0 : decide (65 ≤ (bt a0 x7_1)) = false := decide_eq_false c10
           clear c10
           (first | rw [c10b0] | (simp only [i64_w, i32_w]; rw [c10b0]) | skip)
           have H' := Sd.mk H
           clear H
           go_wp2
           go_meet
           case rel => exact ⟨_, (false), ae, H', ⟨by have := HK1.out; have := HJ5.out; first | omega | exact Nat.le_refl _⟩, zdr⟩
         case rest =>
          clear HC9
          obtain ⟨kq, x13_8, rfl, HA, HJ8, ⟨mc8, rfl⟩⟩ := hcut
          cases kq with
          | zero => exact absurd HA.out (by simp [lb_nameOK.j2])
          | succ kj8 =>
           have H := HA.out
           clear HA
           simp only [lb_nameOK.j2] at H
           by_cases c11 : x13_8 = true
           ·subst c11
            replace H := iT H
            have H' := Sd.mk H
            clear H
            go_wp2
            go_roundg kj8
            case measure => have := HK1.out; have := HJ5.out; have := HJ8.out; omega
            case rel => exact ⟨(wrap64 (x7_1 + 1)), ae, H', ⟨by have := HK1.out; have := HJ5.out; have := HJ8.out; omega⟩, zdr⟩
           ·replace c11 := znf c11
            subst c11
            replace H := iF H
            by_cases c12 : (bt a0 x7_1) = 95
            ·rw [if_pos c12] at H
             have c12b0 : ((bt a0 x7_1) == 95) = true := beq_iff_eq.mpr c12
             have c12b1 : ((bt a0 x7_1) != 95) = false := bne_eq_false_iff_eq.mpr c12
             clear c12
             have H' := Sd.mk H
             clear H
             go_wp2
             go_roundg kj8
             case measure => have := HK1.out; have := HJ5.out; have := HJ8.out; omega
             case rel => exact ⟨(wrap64 (x7_1 + 1)), ae, H', ⟨by have := HK1.out; have := HJ5.out; have := HJ8.out; omega⟩, zdr⟩
            ·rw [if_neg c12] at H
             have c12b0 : ((bt a0 x7_1) == 95) = false := beq_eq_false_iff_ne.mpr c12
             have c12b1 : ((bt a0 x7_1) != 95) = true := bne_iff_ne.mpr c12
             by_cases c13 : x7_1 > 0
             ·rw [if_pos c13] at H
              have c13b0 : decide (0 < x7_1) = true := decide_eq_true c13
              clear c13
              by_cases c14 : (bt a0 x7_1) ≥ 48
              ·rw [if_pos c14] at H
               have c14b0 : decide (48 ≤ (bt a0 x7_1)) = true := decide_eq_true c14
               clear c14
               by_cases c15 : (bt a0 x7_1) ≤ 57
               ·rw [if_pos c15] at H
                have c15b0 : decide ((bt a0 x7_1) ≤ 57) = true := decide_eq_true c15
                clear c15
                have H' := Sd.mk H
                clear H
                go_wp2
                go_roundg kj8
                case measure => have := HK1.out; have := HJ5.out; have := HJ8.out; omega
                case rel => exact ⟨(wrap64 (x7_1 + 1)), ae, H', ⟨by have := HK1.out; have := HJ5.out; have := HJ8.out; omega⟩, zdr⟩
               ·rw [if_neg c15] at H
                have c15b0 : decide ((bt a0 x7_1) ≤ 57) = false := decide_eq_false c15
                clear c15
                obtain rfl := zso H
                go_wp2
                go_ret
                exact ⟨ae, zdr⟩
              ·rw [if_neg c14] at H
               have c14b0 : decide (48 ≤ (bt a0 x7_1)) = false := decide_eq_false c14
               clear c14
               obtain rfl := zso H
               go_wp2
               go_ret
               exact ⟨ae, zdr⟩
             ·rw [if_neg c13] at H
              have c13b0 : decide (0 < x7_1) = false := decide_eq_false c13
              clear c13
              obtain rfl := zso H
              go_wp2
              go_ret
              exact ⟨ae, zdr⟩
     ·rw [if_neg c4] at H
      exact absurd H (by simp)
    ·rw [if_neg c3] at H
     exact absurd H (by simp)
   ·rw [if_neg c2] at H
    have c2b0 : decide (x7_1 < (a0.size : Int)) = false := decide_eq_false c2
    clear c2
    by_cases c16 : a0.toList = ([] : List UInt8)
    ·rw [if_pos c16] at H
     have c16b0 : (a0.toList == ([] : List UInt8)) = true := beq_iff_eq.mpr c16
     have c16b1 : (a0.toList != ([] : List UInt8)) = false := bne_eq_false_iff_eq.mpr c16
     clear c16
     obtain rfl := zso H
     go_wp2
     go_ret
     exact ⟨ae, zdr⟩
    ·rw [if_neg c16] at H
     have c16b0 : (a0.toList == ([] : List UInt8)) = false := beq_eq_false_iff_ne.mpr c16
     have c16b1 : (a0.toList != ([] : List UInt8)) = true := bne_iff_ne.mpr c16
     obtain rfl := zso H
     go_wp2
     go_ret
     exact ⟨ae, zdr⟩
def v_NaN.f  : Option (Int × Int) := some (3, 0)
theorem v_NaN.calls  (r1 : Int) (r2 : Int) (w : World) (h : v_NaN.f  = some (r1, r2)) :
  Calls Tryz.prog 42 #[] w fun e w' => e = .returned (.agg #[.int .i64 r1, .int .i64 r2]) ∧ Below w.heap.size w w' := by
 have hu25 := Tryz.underlying25
 have HB := zsB w
 have H : (some (3, 0)) = some (r1, r2) := h
 clear h
 obtain ⟨rfl, rfl⟩ := zs2 H
 go_enter Tryz.func42, Tryz.ntmps42
 go_wp2_with (first | ((with_reducible refine gate_dst (N := 0) rfl ?_); refine bxe (N := 0) (cs := #[.int .i64 0, .int .i64 0]) (t := 25) ?_; intro gb101 hg w1 hbox hb; have BK101 := Sd.mk hbox; have GW101 := bge w hg; replace HB := bsq w hb; clear hb hbox hg; have hcz2_0 := bz0 BK101; have hcz2_1 := bz1 BK101; have hfz2_0 := blk_frozen BK101.out 0; have hfz2_1 := blk_frozen BK101.out 1))
 refine bodyPost_ret (results_cell_row rfl _ _ gb101 25 #[.int .i64 3, .int .i64 0] (0, 0) _ rfl (by (repeat refine dw ?_); refine blk_put (cs := #[.int .i64 3, .int .i64 0]) ?_ 1 _ rfl; (repeat refine dw ?_); refine blk_put (cs := #[.int .i64 0, .int .i64 0]) ?_ 0 _ rfl; (repeat refine dw ?_); exact BK101.out) Tryz.underlying25 rfl (by kernel_rfl)) rfl ?_
 exact ⟨fe, bbl⟩
def v_Plus.f  : Option (Int × Int) := some (4, 0)
theorem v_Plus.calls  (r1 : Int) (r2 : Int) (w : World) (h : v_Plus.f  = some (r1, r2)) :
  Calls Tryz.prog 111 #[] w fun e w' => e = .returned (.agg #[.int .i64 r1, .int .i64 r2]) ∧ Below w.heap.size w w' := by
 have hu25 := Tryz.underlying25
 have HB := zsB w
 have H : (some (4, 0)) = some (r1, r2) := h
 clear h
 obtain ⟨rfl, rfl⟩ := zs2 H
 go_enter Tryz.func111, Tryz.ntmps111
 go_wp2_with (first | ((with_reducible refine gate_dst (N := 0) rfl ?_); refine bxe (N := 0) (cs := #[.int .i64 0, .int .i64 0]) (t := 25) ?_; intro gb102 hg w1 hbox hb; have BK102 := Sd.mk hbox; have GW102 := bge w hg; replace HB := bsq w hb; clear hb hbox hg; have hcz2_0 := bz0 BK102; have hcz2_1 := bz1 BK102; have hfz2_0 := blk_frozen BK102.out 0; have hfz2_1 := blk_frozen BK102.out 1))
 refine bodyPost_ret (results_cell_row rfl _ _ gb102 25 #[.int .i64 4, .int .i64 0] (0, 0) _ rfl (by (repeat refine dw ?_); refine blk_put (cs := #[.int .i64 4, .int .i64 0]) ?_ 1 _ rfl; (repeat refine dw ?_); refine blk_put (cs := #[.int .i64 0, .int .i64 0]) ?_ 0 _ rfl; (repeat refine dw ?_); exact BK102.out) Tryz.underlying25 rfl (by kernel_rfl)) rfl ?_
 exact ⟨fe, bbl⟩
def v_Minus.f  : Option (Int × Int) := some (5, 0)
theorem v_Minus.calls  (r1 : Int) (r2 : Int) (w : World) (h : v_Minus.f  = some (r1, r2)) :
  Calls Tryz.prog 112 #[] w fun e w' => e = .returned (.agg #[.int .i64 r1, .int .i64 r2]) ∧ Below w.heap.size w w' := by
 have hu25 := Tryz.underlying25
 have HB := zsB w
 have H : (some (5, 0)) = some (r1, r2) := h
 clear h
 obtain ⟨rfl, rfl⟩ := zs2 H
 go_enter Tryz.func112, Tryz.ntmps112
 go_wp2_with (first | ((with_reducible refine gate_dst (N := 0) rfl ?_); refine bxe (N := 0) (cs := #[.int .i64 0, .int .i64 0]) (t := 25) ?_; intro gb103 hg w1 hbox hb; have BK103 := Sd.mk hbox; have GW103 := bge w hg; replace HB := bsq w hb; clear hb hbox hg; have hcz2_0 := bz0 BK103; have hcz2_1 := bz1 BK103; have hfz2_0 := blk_frozen BK103.out 0; have hfz2_1 := blk_frozen BK103.out 1))
 refine bodyPost_ret (results_cell_row rfl _ _ gb103 25 #[.int .i64 5, .int .i64 0] (0, 0) _ rfl (by (repeat refine dw ?_); refine blk_put (cs := #[.int .i64 5, .int .i64 0]) ?_ 1 _ rfl; (repeat refine dw ?_); refine blk_put (cs := #[.int .i64 0, .int .i64 0]) ?_ 0 _ rfl; (repeat refine dw ?_); exact BK103.out) Tryz.underlying25 rfl (by kernel_rfl)) rfl ?_
 exact ⟨fe, bbl⟩
def v_Num.f (a0 : Int) : Option (Int × Int) := if a0 > 1000000000000000 then ((v_Plus.f).bind fun bt105 => (some (bt105.1, bt105.2))) else (if a0 < (-1000000000000000) then ((v_Minus.f).bind fun bt107 => (some (bt107.1, bt107.2))) else (some (1, a0)))
theorem v_Num.calls (a0 : Int) (r1 : Int) (r2 : Int) (w : World) (h : v_Num.f a0 = some (r1, r2)) :
  Calls Tryz.prog 76 #[.int .i64 a0] w fun e w' => e = .returned (.agg #[.int .i64 r1, .int .i64 r2]) ∧ Below w.heap.size w w' := by
 have hu25 := Tryz.underlying25
 have HB := zsB w
 have H : (if a0 > 1000000000000000 then ((v_Plus.f).bind fun bt105 => (some (bt105.1, bt105.2))) else (if a0 < (-1000000000000000) then ((v_Minus.f).bind fun bt107 => (some (bt107.1, bt107.2))) else (some (1, a0)))) = some (r1, r2) := h
 clear h
 by_cases c2 : a0 > 1000000000000000
 ·rw [if_pos c2] at H
  have c2b0 : decide (1000000000000000 < a0) = true := decide_eq_true c2
  clear c2
  obtain ⟨⟨t105, t106⟩, A3, H⟩ := bnd H
  replace H : (some (t105, t106)) = some (r1, r2) := H
  obtain ⟨rfl, rfl⟩ := zs2 H
  go_enter Tryz.func76, Tryz.ntmps76
  go_wp2_with (first | ((with_reducible refine gate_dst (N := 2) rfl ?_); refine bxe (N := 2) (cs := #[.int .i64 0, .int .i64 0]) (t := 25) ?_; intro gb104 hg w4 hbox hb; have BK104 := Sd.mk hbox; have GW104 := bge w hg; have GE104 := bge w hg; replace HB := bsq w hb; clear hb hbox hg) | ((with_reducible refine gate_callee (f := 111) rfl ?_); refine goesL_ (some 6) rfl rfl Tryz.func111 (by kernel_rfl) rfl #[] rfl ma ?_; (with_reducible refine (v_Plus.calls  t105 t106 _ A3.out).mono ?_); rintro e w5 ⟨rfl, hb⟩; refine ⟨_, rfl, ?_⟩; replace BK104 := bkb BK104 hb; replace HB := bsq w hb; (try clear hb); have hcz6_0 := bz0 BK104; have hcz6_1 := bz1 BK104; have hfz6_0 := blk_frozen BK104.out 0; have hfz6_1 := blk_frozen BK104.out 1))
  refine bodyPost_ret (results_cell_row rfl _ _ gb104 25 #[.int .i64 t105, .int .i64 t106] (0, 0) _ rfl (by (repeat refine dw ?_); refine blk_put (cs := #[.int .i64 t105, .int .i64 0]) ?_ 1 _ rfl; (repeat refine dw ?_); refine blk_put (cs := #[.int .i64 0, .int .i64 0]) ?_ 0 _ rfl; (repeat refine dw ?_); exact BK104.out) Tryz.underlying25 rfl (by kernel_rfl)) rfl ?_
  exact ⟨fe, bbl⟩
 ·rw [if_neg c2] at H
  have c2b0 : decide (1000000000000000 < a0) = false := decide_eq_false c2
  clear c2
  by_cases c7 : a0 < (-1000000000000000)
  ·rw [if_pos c7] at H
   have c7b0 : decide (a0 < (-1000000000000000)) = true := decide_eq_true c7
   clear c7
   obtain ⟨⟨t107, t108⟩, A8, H⟩ := bnd H
   replace H : (some (t107, t108)) = some (r1, r2) := H
   obtain ⟨rfl, rfl⟩ := zs2 H
   go_enter Tryz.func76, Tryz.ntmps76
   go_wp2_with (first | ((with_reducible refine gate_dst (N := 2) rfl ?_); refine bxe (N := 2) (cs := #[.int .i64 0, .int .i64 0]) (t := 25) ?_; intro gb104 hg w9 hbox hb; have BK104 := Sd.mk hbox; have GW104 := bge w hg; have GE104 := bge w hg; replace HB := bsq w hb; clear hb hbox hg) | ((with_reducible refine gate_callee (f := 112) rfl ?_); refine goesL_ (some 10) rfl rfl Tryz.func112 (by kernel_rfl) rfl #[] rfl ma ?_; (with_reducible refine (v_Minus.calls  t107 t108 _ A8.out).mono ?_); rintro e w10 ⟨rfl, hb⟩; refine ⟨_, rfl, ?_⟩; replace BK104 := bkb BK104 hb; replace HB := bsq w hb; (try clear hb); have hcz11_0 := bz0 BK104; have hcz11_1 := bz1 BK104; have hfz11_0 := blk_frozen BK104.out 0; have hfz11_1 := blk_frozen BK104.out 1))
   refine bodyPost_ret (results_cell_row rfl _ _ gb104 25 #[.int .i64 t107, .int .i64 t108] (0, 0) _ rfl (by (repeat refine dw ?_); refine blk_put (cs := #[.int .i64 t107, .int .i64 0]) ?_ 1 _ rfl; (repeat refine dw ?_); refine blk_put (cs := #[.int .i64 0, .int .i64 0]) ?_ 0 _ rfl; (repeat refine dw ?_); exact BK104.out) Tryz.underlying25 rfl (by kernel_rfl)) rfl ?_
   exact ⟨fe, bbl⟩
  ·rw [if_neg c7] at H
   have c7b0 : decide (a0 < (-1000000000000000)) = false := decide_eq_false c7
   clear c7
   obtain ⟨rfl, rfl⟩ := zs2 H
   go_enter Tryz.func76, Tryz.ntmps76
   go_wp2_with (first | ((with_reducible refine gate_dst (N := 2) rfl ?_); refine bxe (N := 2) (cs := #[.int .i64 0, .int .i64 0]) (t := 25) ?_; intro gb104 hg w12 hbox hb; have BK104 := Sd.mk hbox; have GW104 := bge w hg; have GE104 := bge w hg; replace HB := bsq w hb; clear hb hbox hg; have hcz13_0 := bz0 BK104; have hcz13_1 := bz1 BK104; have hfz13_0 := blk_frozen BK104.out 0; have hfz13_1 := blk_frozen BK104.out 1))
   refine bodyPost_ret (results_cell_row rfl _ _ gb104 25 #[.int .i64 1, .int .i64 a0] (0, 0) _ rfl (by (repeat refine dw ?_); refine blk_put (cs := #[.int .i64 1, .int .i64 0]) ?_ 1 _ rfl; (repeat refine dw ?_); refine blk_put (cs := #[.int .i64 0, .int .i64 0]) ?_ 0 _ rfl; (repeat refine dw ?_); exact BK104.out) Tryz.underlying25 rfl (by kernel_rfl)) rfl ?_
   exact ⟨fe, bbl⟩
def v_finite.f (a0_0 : Int) (a0_1 : Int) : Option (Bool) := some (a0_0 == 1)
theorem v_finite.calls (a0_0 : Int) (a0_1 : Int) (r : Bool) (w : World) (h : v_finite.f a0_0 a0_1 = some r) :
  Calls Tryz.prog 122 #[.agg #[.int .i64 a0_0, .int .i64 a0_1]] w fun e w' => e = .returned (.bool r) ∧ Below w.heap.size w w' := by
 have hu25 := Tryz.underlying25
 have HB := zsB w
 have H : (some (a0_0 == 1)) = some r := h
 clear h
 obtain rfl := zso H
 go_enter Tryz.func122, Tryz.ntmps122
 go_wp2_with (first | ((with_reducible refine gate_dst (N := 1) rfl ?_); refine bxe (N := 1) (cs := #[.int .i64 a0_0, .int .i64 a0_1]) (t := 25) ?_; intro gb109 hg w2 hbox hb; have BK109 := Sd.mk hbox; have GW109 := bge w hg; replace HB := bsq w hb; clear hb hbox hg; have hcz3_0 := bz0 BK109; have hcz3_1 := bz1 BK109; have hfz3_0 := blk_frozen BK109.out 0; have hfz3_1 := blk_frozen BK109.out 1))
 go_ret
 exact ⟨fe, bbl⟩
def r8_Plus.f  : Option (Int × Int) := some (4, 0)
theorem r8_Plus.calls  (r1 : Int) (r2 : Int) (w : World) (h : r8_Plus.f  = some (r1, r2)) :
  Calls Tryz.prog 69 #[] w fun e w' => e = .returned (.agg #[.int .i64 r1, .int .i64 r2]) ∧ Below w.heap.size w w' := by
 have hu25 := Tryz.underlying25
 have HB := zsB w
 have H : (some (4, 0)) = some (r1, r2) := h
 clear h
 obtain ⟨rfl, rfl⟩ := zs2 H
 go_enter Tryz.func69, Tryz.ntmps69
 go_wp2_with (first | ((with_reducible refine gate_dst (N := 0) rfl ?_); refine bxe (N := 0) (cs := #[.int .i64 0, .int .i64 0]) (t := 25) ?_; intro gb221 hg w1 hbox hb; have BK221 := Sd.mk hbox; have GW221 := bge w hg; replace HB := bsq w hb; clear hb hbox hg; have hcz2_0 := bz0 BK221; have hcz2_1 := bz1 BK221; have hfz2_0 := blk_frozen BK221.out 0; have hfz2_1 := blk_frozen BK221.out 1))
 refine bodyPost_ret (results_cell_row rfl _ _ gb221 25 #[.int .i64 4, .int .i64 0] (0, 0) _ rfl (by (repeat refine dw ?_); refine blk_put (cs := #[.int .i64 4, .int .i64 0]) ?_ 1 _ rfl; (repeat refine dw ?_); refine blk_put (cs := #[.int .i64 0, .int .i64 0]) ?_ 0 _ rfl; (repeat refine dw ?_); exact BK221.out) Tryz.underlying25 rfl (by kernel_rfl)) rfl ?_
 exact ⟨fe, bbl⟩
def r8_Minus.f  : Option (Int × Int) := some (5, 0)
theorem r8_Minus.calls  (r1 : Int) (r2 : Int) (w : World) (h : r8_Minus.f  = some (r1, r2)) :
  Calls Tryz.prog 70 #[] w fun e w' => e = .returned (.agg #[.int .i64 r1, .int .i64 r2]) ∧ Below w.heap.size w w' := by
 have hu25 := Tryz.underlying25
 have HB := zsB w
 have H : (some (5, 0)) = some (r1, r2) := h
 clear h
 obtain ⟨rfl, rfl⟩ := zs2 H
 go_enter Tryz.func70, Tryz.ntmps70
 go_wp2_with (first | ((with_reducible refine gate_dst (N := 0) rfl ?_); refine bxe (N := 0) (cs := #[.int .i64 0, .int .i64 0]) (t := 25) ?_; intro gb222 hg w1 hbox hb; have BK222 := Sd.mk hbox; have GW222 := bge w hg; replace HB := bsq w hb; clear hb hbox hg; have hcz2_0 := bz0 BK222; have hcz2_1 := bz1 BK222; have hfz2_0 := blk_frozen BK222.out 0; have hfz2_1 := blk_frozen BK222.out 1))
 refine bodyPost_ret (results_cell_row rfl _ _ gb222 25 #[.int .i64 5, .int .i64 0] (0, 0) _ rfl (by (repeat refine dw ?_); refine blk_put (cs := #[.int .i64 5, .int .i64 0]) ?_ 1 _ rfl; (repeat refine dw ?_); refine blk_put (cs := #[.int .i64 0, .int .i64 0]) ?_ 0 _ rfl; (repeat refine dw ?_); exact BK222.out) Tryz.underlying25 rfl (by kernel_rfl)) rfl ?_
 exact ⟨fe, bbl⟩
def r8_Num.f (a0 : Int) : Option (Int × Int) := if a0 > 1000000000000000 then ((r8_Plus.f).bind fun bt224 => (some (bt224.1, bt224.2))) else (if a0 < (-1000000000000000) then ((r8_Minus.f).bind fun bt226 => (some (bt226.1, bt226.2))) else (some (1, a0)))
theorem r8_Num.calls (a0 : Int) (r1 : Int) (r2 : Int) (w : World) (h : r8_Num.f a0 = some (r1, r2)) :
  Calls Tryz.prog 27 #[.int .i64 a0] w fun e w' => e = .returned (.agg #[.int .i64 r1, .int .i64 r2]) ∧ Below w.heap.size w w' := by
 have hu25 := Tryz.underlying25
 have HB := zsB w
 have H : (if a0 > 1000000000000000 then ((r8_Plus.f).bind fun bt224 => (some (bt224.1, bt224.2))) else (if a0 < (-1000000000000000) then ((r8_Minus.f).bind fun bt226 => (some (bt226.1, bt226.2))) else (some (1, a0)))) = some (r1, r2) := h
 clear h
 by_cases c2 : a0 > 1000000000000000
 ·rw [if_pos c2] at H
  have c2b0 : decide (1000000000000000 < a0) = true := decide_eq_true c2
  clear c2
  obtain ⟨⟨t224, t225⟩, A3, H⟩ := bnd H
  replace H : (some (t224, t225)) = some (r1, r2) := H
  obtain ⟨rfl, rfl⟩ := zs2 H
  go_enter Tryz.func27, Tryz.ntmps27
  go_wp2_with (first | ((with_reducible refine gate_dst (N := 2) rfl ?_); refine bxe (N := 2) (cs := #[.int .i64 0, .int .i64 0]) (t := 25) ?_; intro gb223 hg w4 hbox hb; have BK223 := Sd.mk hbox; have GW223 := bge w hg; have GE223 := bge w hg; replace HB := bsq w hb; clear hb hbox hg) | ((with_reducible refine gate_callee (f := 69) rfl ?_); refine goesL_ (some 5) rfl rfl Tryz.func69 (by kernel_rfl) rfl #[] rfl ma ?_; (with_reducible refine (r8_Plus.calls  t224 t225 _ A3.out).mono ?_); rintro e w5 ⟨rfl, hb⟩; refine ⟨_, rfl, ?_⟩; replace BK223 := bkb BK223 hb; replace HB := bsq w hb; (try clear hb); have hcz6_0 := bz0 BK223; have hcz6_1 := bz1 BK223; have hfz6_0 := blk_frozen BK223.out 0; have hfz6_1 := blk_frozen BK223.out 1))
  refine bodyPost_ret (results_cell_row rfl _ _ gb223 25 #[.int .i64 t224, .int .i64 t225] (0, 0) _ rfl (by (repeat refine dw ?_); refine blk_put (cs := #[.int .i64 t224, .int .i64 0]) ?_ 1 _ rfl; (repeat refine dw ?_); refine blk_put (cs := #[.int .i64 0, .int .i64 0]) ?_ 0 _ rfl; (repeat refine dw ?_); exact BK223.out) Tryz.underlying25 rfl (by kernel_rfl)) rfl ?_
  exact ⟨fe, bbl⟩
 ·rw [if_neg c2] at H
  have c2b0 : decide (1000000000000000 < a0) = false := decide_eq_false c2
  clear c2
  by_cases c7 : a0 < (-1000000000000000)
  ·rw [if_pos c7] at H
   have c7b0 : decide (a0 < (-1000000000000000)) = true := decide_eq_true c7
   clear c7
   obtain ⟨⟨t226, t227⟩, A8, H⟩ := bnd H
   replace H : (some (t226, t227)) = some (r1, r2) := H
   obtain ⟨rfl, rfl⟩ := zs2 H
   go_enter Tryz.func27, Tryz.ntmps27
   go_wp2_with (first | ((with_reducible refine gate_dst (N := 2) rfl ?_); refine bxe (N := 2) (cs := #[.int .i64 0, .int .i64 0]) (t := 25) ?_; intro gb223 hg w9 hbox hb; have BK223 := Sd.mk hbox; have GW223 := bge w hg; have GE223 := bge w hg; replace HB := bsq w hb; clear hb hbox hg) | ((with_reducible refine gate_callee (f := 70) rfl ?_); refine goesL_ (some 8) rfl rfl Tryz.func70 (by kernel_rfl) rfl #[] rfl ma ?_; (with_reducible refine (r8_Minus.calls  t226 t227 _ A8.out).mono ?_); rintro e w10 ⟨rfl, hb⟩; refine ⟨_, rfl, ?_⟩; replace BK223 := bkb BK223 hb; replace HB := bsq w hb; (try clear hb); have hcz11_0 := bz0 BK223; have hcz11_1 := bz1 BK223; have hfz11_0 := blk_frozen BK223.out 0; have hfz11_1 := blk_frozen BK223.out 1))
   refine bodyPost_ret (results_cell_row rfl _ _ gb223 25 #[.int .i64 t226, .int .i64 t227] (0, 0) _ rfl (by (repeat refine dw ?_); refine blk_put (cs := #[.int .i64 t226, .int .i64 0]) ?_ 1 _ rfl; (repeat refine dw ?_); refine blk_put (cs := #[.int .i64 0, .int .i64 0]) ?_ 0 _ rfl; (repeat refine dw ?_); exact BK223.out) Tryz.underlying25 rfl (by kernel_rfl)) rfl ?_
   exact ⟨fe, bbl⟩
  ·rw [if_neg c7] at H
   have c7b0 : decide (a0 < (-1000000000000000)) = false := decide_eq_false c7
   clear c7
   obtain ⟨rfl, rfl⟩ := zs2 H
   go_enter Tryz.func27, Tryz.ntmps27
   go_wp2_with (first | ((with_reducible refine gate_dst (N := 2) rfl ?_); refine bxe (N := 2) (cs := #[.int .i64 0, .int .i64 0]) (t := 25) ?_; intro gb223 hg w12 hbox hb; have BK223 := Sd.mk hbox; have GW223 := bge w hg; have GE223 := bge w hg; replace HB := bsq w hb; clear hb hbox hg; have hcz13_0 := bz0 BK223; have hcz13_1 := bz1 BK223; have hfz13_0 := blk_frozen BK223.out 0; have hfz13_1 := blk_frozen BK223.out 1))
   refine bodyPost_ret (results_cell_row rfl _ _ gb223 25 #[.int .i64 1, .int .i64 a0] (0, 0) _ rfl (by (repeat refine dw ?_); refine blk_put (cs := #[.int .i64 1, .int .i64 0]) ?_ 1 _ rfl; (repeat refine dw ?_); refine blk_put (cs := #[.int .i64 0, .int .i64 0]) ?_ 0 _ rfl; (repeat refine dw ?_); exact BK223.out) Tryz.underlying25 rfl (by kernel_rfl)) rfl ?_
   exact ⟨fe, bbl⟩
def r8_True.f (a0_0 : Int) (a0_1 : Int) : Option (Bool) := if a0_0 = 1 then (if a0_1 = 0 then (if a0_0 = 3 then (some true) else (if a0_0 = 4 then (some true) else (some (a0_0 == 5)))) else (some true)) else (if a0_0 = 3 then (some true) else (if a0_0 = 4 then (some true) else (some (a0_0 == 5))))
theorem r8_True.calls (a0_0 : Int) (a0_1 : Int) (r : Bool) (w : World) (h : r8_True.f a0_0 a0_1 = some r) :
  Calls Tryz.prog 65 #[.agg #[.int .i64 a0_0, .int .i64 a0_1]] w fun e w' => e = .returned (.bool r) ∧ Below w.heap.size w w' := by
 have hu25 := Tryz.underlying25
 have HB := zsB w
 have H : (if a0_0 = 1 then (if a0_1 = 0 then (if a0_0 = 3 then (some true) else (if a0_0 = 4 then (some true) else (some (a0_0 == 5)))) else (some true)) else (if a0_0 = 3 then (some true) else (if a0_0 = 4 then (some true) else (some (a0_0 == 5))))) = some r := h
 clear h
 by_cases c2 : a0_0 = 1
 ·rw [if_pos c2] at H
  have c2b0 := beq_iff_eq.mpr c2
  have c2b1 := bne_eq_false_iff_eq.mpr c2
  clear c2
  by_cases c3 : a0_1 = 0
  ·rw [if_pos c3] at H
   have c3b0 := beq_iff_eq.mpr c3
   have c3b1 := bne_eq_false_iff_eq.mpr c3
   clear c3
   by_cases c4 : a0_0 = 3
   ·rw [if_pos c4] at H
    have c4b0 := beq_iff_eq.mpr c4
    have c4b1 := bne_eq_false_iff_eq.mpr c4
    clear c4
    obtain rfl := zso H
    go_enter Tryz.func65, Tryz.ntmps65
    go_wp2_with (first | ((with_reducible refine gate_dst (N := 1) rfl ?_); refine bxe (N := 1) (cs := #[.int .i64 a0_0, .int .i64 a0_1]) (t := 25) ?_; intro gb228 hg w5 hbox hb; have BK228 := Sd.mk hbox; have GW228 := bge w hg; have GE228 := bge w hg; replace HB := bsq w hb; clear hb hbox hg; have hcz6_0 := bz0 BK228; have hcz6_1 := bz1 BK228; have hfz6_0 := blk_frozen BK228.out 0; have hfz6_1 := blk_frozen BK228.out 1))
    go_ret
    exact ⟨fe, bbl⟩
   ·rw [if_neg c4] at H
    have c4b0 := beq_eq_false_iff_ne.mpr c4
    have c4b1 := bne_iff_ne.mpr c4
    by_cases c7 : a0_0 = 4
    ·rw [if_pos c7] at H
     have c7b0 := beq_iff_eq.mpr c7
     have c7b1 := bne_eq_false_iff_eq.mpr c7
     clear c7
     obtain rfl := zso H
     go_enter Tryz.func65, Tryz.ntmps65
     go_wp2_with (first | ((with_reducible refine gate_dst (N := 1) rfl ?_); refine bxe (N := 1) (cs := #[.int .i64 a0_0, .int .i64 a0_1]) (t := 25) ?_; intro gb228 hg w8 hbox hb; have BK228 := Sd.mk hbox; have GW228 := bge w hg; have GE228 := bge w hg; replace HB := bsq w hb; clear hb hbox hg; have hcz9_0 := bz0 BK228; have hcz9_1 := bz1 BK228; have hfz9_0 := blk_frozen BK228.out 0; have hfz9_1 := blk_frozen BK228.out 1))
     go_ret
     exact ⟨fe, bbl⟩
    ·rw [if_neg c7] at H
     have c7b0 := beq_eq_false_iff_ne.mpr c7
     have c7b1 := bne_iff_ne.mpr c7
     obtain rfl := zso H
     go_enter Tryz.func65, Tryz.ntmps65
     go_wp2_with (first | ((with_reducible refine gate_dst (N := 1) rfl ?_); refine bxe (N := 1) (cs := #[.int .i64 a0_0, .int .i64 a0_1]) (t := 25) ?_; intro gb228 hg w10 hbox hb; have BK228 := Sd.mk hbox; have GW228 := bge w hg; have GE228 := bge w hg; replace HB := bsq w hb; clear hb hbox hg; have hcz11_0 := bz0 BK228; have hcz11_1 := bz1 BK228; have hfz11_0 := blk_frozen BK228.out 0; have hfz11_1 := blk_frozen BK228.out 1))
     go_ret
     exact ⟨fe, bbl⟩
  ·rw [if_neg c3] at H
   have c3b0 := beq_eq_false_iff_ne.mpr c3
   have c3b1 := bne_iff_ne.mpr c3
   obtain rfl := zso H
   go_enter Tryz.func65, Tryz.ntmps65
   go_wp2_with (first | ((with_reducible refine gate_dst (N := 1) rfl ?_); refine bxe (N := 1) (cs := #[.int .i64 a0_0, .int .i64 a0_1]) (t := 25) ?_; intro gb228 hg w12 hbox hb; have BK228 := Sd.mk hbox; have GW228 := bge w hg; have GE228 := bge w hg; replace HB := bsq w hb; clear hb hbox hg; have hcz13_0 := bz0 BK228; have hcz13_1 := bz1 BK228; have hfz13_0 := blk_frozen BK228.out 0; have hfz13_1 := blk_frozen BK228.out 1))
   go_ret
   exact ⟨fe, bbl⟩
 ·rw [if_neg c2] at H
  have c2b0 := beq_eq_false_iff_ne.mpr c2
  have c2b1 := bne_iff_ne.mpr c2
  by_cases c14 : a0_0 = 3
  ·rw [if_pos c14] at H
   have c14b0 := beq_iff_eq.mpr c14
   have c14b1 := bne_eq_false_iff_eq.mpr c14
   clear c14
   obtain rfl := zso H
   go_enter Tryz.func65, Tryz.ntmps65
   go_wp2_with (first | ((with_reducible refine gate_dst (N := 1) rfl ?_); refine bxe (N := 1) (cs := #[.int .i64 a0_0, .int .i64 a0_1]) (t := 25) ?_; intro gb228 hg w15 hbox hb; have BK228 := Sd.mk hbox; have GW228 := bge w hg; have GE228 := bge w hg; replace HB := bsq w hb; clear hb hbox hg; have hcz16_0 := bz0 BK228; have hcz16_1 := bz1 BK228; have hfz16_0 := blk_frozen BK228.out 0; have hfz16_1 := blk_frozen BK228.out 1))
   go_ret
   exact ⟨fe, bbl⟩
  ·rw [if_neg c14] at H
   have c14b0 := beq_eq_false_iff_ne.mpr c14
   have c14b1 := bne_iff_ne.mpr c14
   by_cases c17 : a0_0 = 4
   ·rw [if_pos c17] at H
    have c17b0 := beq_iff_eq.mpr c17
    have c17b1 := bne_eq_false_iff_eq.mpr c17
    clear c17
    obtain rfl := zso H
    go_enter Tryz.func65, Tryz.ntmps65
    go_wp2_with (first | ((with_reducible refine gate_dst (N := 1) rfl ?_); refine bxe (N := 1) (cs := #[.int .i64 a0_0, .int .i64 a0_1]) (t := 25) ?_; intro gb228 hg w18 hbox hb; have BK228 := Sd.mk hbox; have GW228 := bge w hg; have GE228 := bge w hg; replace HB := bsq w hb; clear hb hbox hg; have hcz19_0 := bz0 BK228; have hcz19_1 := bz1 BK228; have hfz19_0 := blk_frozen BK228.out 0; have hfz19_1 := blk_frozen BK228.out 1))
    go_ret
    exact ⟨fe, bbl⟩
   ·rw [if_neg c17] at H
    have c17b0 := beq_eq_false_iff_ne.mpr c17
    have c17b1 := bne_iff_ne.mpr c17
    obtain rfl := zso H
    go_enter Tryz.func65, Tryz.ntmps65
    go_wp2_with (first | ((with_reducible refine gate_dst (N := 1) rfl ?_); refine bxe (N := 1) (cs := #[.int .i64 a0_0, .int .i64 a0_1]) (t := 25) ?_; intro gb228 hg w20 hbox hb; have BK228 := Sd.mk hbox; have GW228 := bge w hg; have GE228 := bge w hg; replace HB := bsq w hb; clear hb hbox hg; have hcz21_0 := bz0 BK228; have hcz21_1 := bz1 BK228; have hfz21_0 := blk_frozen BK228.out 0; have hfz21_1 := blk_frozen BK228.out 1))
    go_ret
    exact ⟨fe, bbl⟩
def r8_num.f (a0_0 : Int) (a0_1 : Int) : Option (Bool) := some (a0_0 == 1)
theorem r8_num.calls (a0_0 : Int) (a0_1 : Int) (r : Bool) (w : World) (h : r8_num.f a0_0 a0_1 = some r) :
  Calls Tryz.prog 84 #[.agg #[.int .i64 a0_0, .int .i64 a0_1]] w fun e w' => e = .returned (.bool r) ∧ Below w.heap.size w w' := by
 have hu25 := Tryz.underlying25
 have HB := zsB w
 have H : (some (a0_0 == 1)) = some r := h
 clear h
 obtain rfl := zso H
 go_enter Tryz.func84, Tryz.ntmps84
 go_wp2_with (first | ((with_reducible refine gate_dst (N := 1) rfl ?_); refine bxe (N := 1) (cs := #[.int .i64 a0_0, .int .i64 a0_1]) (t := 25) ?_; intro gb229 hg w2 hbox hb; have BK229 := Sd.mk hbox; have GW229 := bge w hg; replace HB := bsq w hb; clear hb hbox hg; have hcz3_0 := bz0 BK229; have hcz3_1 := bz1 BK229; have hfz3_0 := blk_frozen BK229.out 0; have hfz3_1 := blk_frozen BK229.out 1))
 go_ret
 exact ⟨fe, bbl⟩
def r8_Truth.f (a0 : Bool) : Option (Int × Int) := if a0 = true then ((r8_Num.f 1000).bind fun bt231 => (some (bt231.1, bt231.2))) else ((r8_Num.f 0).bind fun bt233 => (some (bt233.1, bt233.2)))
theorem r8_Truth.calls (a0 : Bool) (r1 : Int) (r2 : Int) (w : World) (h : r8_Truth.f a0 = some (r1, r2)) :
  Calls Tryz.prog 95 #[.bool a0] w fun e w' => e = .returned (.agg #[.int .i64 r1, .int .i64 r2]) ∧ Below w.heap.size w w' := by
 have hu25 := Tryz.underlying25
 have HB := zsB w
 have H : (if a0 = true then ((r8_Num.f 1000).bind fun bt231 => (some (bt231.1, bt231.2))) else ((r8_Num.f 0).bind fun bt233 => (some (bt233.1, bt233.2)))) = some (r1, r2) := h
 clear h
 by_cases c2 : a0 = true
 ·subst c2
  replace H := iT H
  obtain ⟨⟨t231, t232⟩, A3, H⟩ := bnd H
  replace H : (some (t231, t232)) = some (r1, r2) := H
  obtain ⟨rfl, rfl⟩ := zs2 H
  go_enter Tryz.func95, Tryz.ntmps95
  go_wp2_with (first | ((with_reducible refine gate_dst (N := 2) rfl ?_); refine bxe (N := 2) (cs := #[.int .i64 0, .int .i64 0]) (t := 25) ?_; intro gb230 hg w4 hbox hb; have BK230 := Sd.mk hbox; have GW230 := bge w hg; have GE230 := bge w hg; replace HB := bsq w hb; clear hb hbox hg) | ((with_reducible refine gate_callee (f := 27) rfl ?_); refine goesL_ (some 4) rfl rfl Tryz.func27 (by kernel_rfl) rfl #[.int .i64 1000] rfl ma ?_; (with_reducible refine (r8_Num.calls 1000 t231 t232 _ A3.out).mono ?_); rintro e w5 ⟨rfl, hb⟩; refine ⟨_, rfl, ?_⟩; replace BK230 := bkb BK230 hb; replace HB := bsq w hb; (try clear hb); have hcz6_0 := bz0 BK230; have hcz6_1 := bz1 BK230; have hfz6_0 := blk_frozen BK230.out 0; have hfz6_1 := blk_frozen BK230.out 1))
  refine bodyPost_ret (results_cell_row rfl _ _ gb230 25 #[.int .i64 t231, .int .i64 t232] (0, 0) _ rfl (by (repeat refine dw ?_); refine blk_put (cs := #[.int .i64 t231, .int .i64 0]) ?_ 1 _ rfl; (repeat refine dw ?_); refine blk_put (cs := #[.int .i64 0, .int .i64 0]) ?_ 0 _ rfl; (repeat refine dw ?_); exact BK230.out) Tryz.underlying25 rfl (by kernel_rfl)) rfl ?_
  exact ⟨fe, bbl⟩
 ·replace c2 := znf c2
  subst c2
  replace H := iF H
  obtain ⟨⟨t233, t234⟩, A7, H⟩ := bnd H
  replace H : (some (t233, t234)) = some (r1, r2) := H
  obtain ⟨rfl, rfl⟩ := zs2 H
  go_enter Tryz.func95, Tryz.ntmps95
  go_wp2_with (first | ((with_reducible refine gate_dst (N := 2) rfl ?_); refine bxe (N := 2) (cs := #[.int .i64 0, .int .i64 0]) (t := 25) ?_; intro gb230 hg w8 hbox hb; have BK230 := Sd.mk hbox; have GW230 := bge w hg; have GE230 := bge w hg; replace HB := bsq w hb; clear hb hbox hg) | ((with_reducible refine gate_callee (f := 27) rfl ?_); refine goesL_ (some 5) rfl rfl Tryz.func27 (by kernel_rfl) rfl #[.int .i64 0] rfl ma ?_; (with_reducible refine (r8_Num.calls 0 t233 t234 _ A7.out).mono ?_); rintro e w9 ⟨rfl, hb⟩; refine ⟨_, rfl, ?_⟩; replace BK230 := bkb BK230 hb; replace HB := bsq w hb; (try clear hb); have hcz10_0 := bz0 BK230; have hcz10_1 := bz1 BK230; have hfz10_0 := blk_frozen BK230.out 0; have hfz10_1 := blk_frozen BK230.out 1))
  refine bodyPost_ret (results_cell_row rfl _ _ gb230 25 #[.int .i64 t233, .int .i64 t234] (0, 0) _ rfl (by (repeat refine dw ?_); refine blk_put (cs := #[.int .i64 t233, .int .i64 0]) ?_ 1 _ rfl; (repeat refine dw ?_); refine blk_put (cs := #[.int .i64 0, .int .i64 0]) ?_ 0 _ rfl; (repeat refine dw ?_); exact BK230.out) Tryz.underlying25 rfl (by kernel_rfl)) rfl ?_
  exact ⟨fe, bbl⟩
def r8_sign.j0 : Nat → Bool → Int → Int → Option (Int)
 | 0, _, _, _ => none
 | k + 1, x3, x236000, x236001 => if x3 = true then (some 1) else (if x236000 = 5 then (some (-1)) else (if x236001 < 0 then (some (-1)) else (some 0)))
def r8_sign.f (k : Nat) (a0_0 : Int) (a0_1 : Int) : Option (Int) := if a0_0 = 4 then (r8_sign.j0 k true a0_0 a0_1) else (r8_sign.j0 k (decide (a0_1 > 0)) a0_0 a0_1)
theorem r8_sign.calls (k : Nat) (a0_0 : Int) (a0_1 : Int) (r : Int) (w : World) (h : r8_sign.f k a0_0 a0_1 = some r) :
  Calls Tryz.prog 96 #[.agg #[.int .i64 a0_0, .int .i64 a0_1]] w fun e w' => e = .returned (.int .i64 r) ∧ Below w.heap.size w w' := by
 have hu25 := Tryz.underlying25
 have HB := zsB w
 have H : (if a0_0 = 4 then (r8_sign.j0 k true a0_0 a0_1) else (r8_sign.j0 k (decide (a0_1 > 0)) a0_0 a0_1)) = some r := h
 clear h
 have HC2 := Sd.mk H
 clear H
 go_enter Tryz.func96, Tryz.ntmps96
 go_upto_region 1 with (first | ((with_reducible refine gate_dst (N := 1) rfl ?_); refine bxe (N := 1) (cs := #[.int .i64 a0_0, .int .i64 a0_1]) (t := 25) ?_; intro gb235 hg w3 hbox hb; have BK235 := Sd.mk hbox; have GW235 := bge w hg; replace HB := bsq w hb; clear hb hbox hg))
 (try simp only [Act.put, List.setIfInBounds_toArray, List.set_cons_zero, List.set_cons_succ])
 go_cut [3] (fun v3 wc => ∃ (kq : Nat) (x3_1 : Bool), v3 = .bool x3_1 ∧ Sd (r8_sign.j0 kq x3_1 a0_0 a0_1 = some r) ∧ Sd (kq ≤ k) ∧ Sd (wc.heap[gb235]? = some (.cells #[.int .i64 a0_0, .int .i64 a0_1] 25 (0, 0))) ∧ Sd (Below w.heap.size w wc))
 case first =>
  have H := HC2.out
  clear HC2
  by_cases c4 : a0_0 = 4
  ·rw [if_pos c4] at H
   have c4b0 := beq_iff_eq.mpr c4
   have c4b1 := bne_eq_false_iff_eq.mpr c4
   clear c4
   (first | rw [c4b0] | (simp only [i64_w, i32_w]; rw [c4b0]) | skip)
   have H' := Sd.mk H
   clear H
   obtain ⟨_, _, _, _⟩ := bz BK235
   go_wp2
   go_meet
   case rel => exact ⟨_, (true), ae, H', ⟨by first | omega | exact Nat.le_refl _⟩, fwK BK235, ⟨bbl⟩⟩
  ·rw [if_neg c4] at H
   have c4b0 := beq_eq_false_iff_ne.mpr c4
   have c4b1 := bne_iff_ne.mpr c4
   (first | rw [c4b0] | (simp only [i64_w, i32_w]; rw [c4b0]) | skip)
   have H' := Sd.mk H
   clear H
   obtain ⟨_, _, _, _⟩ := bz BK235
   go_wp2
   go_meet
   case rel => exact ⟨_, (decide (a0_1 > 0)), ae, H', ⟨by first | omega | exact Nat.le_refl _⟩, fwK BK235, ⟨bbl⟩⟩
 case rest =>
  clear HC2
  obtain ⟨kq, x3_1, rfl, HA, HJ1, BK235, HB⟩ := hcut
  cases kq with
  | zero => exact absurd HA.out (by simp [r8_sign.j0])
  | succ kj1 =>
   have H := HA.out
   clear HA
   simp only [r8_sign.j0] at H
   by_cases c7 : x3_1 = true
   ·subst c7
    replace H := iT H
    obtain rfl := zso H
    go_wp2
    go_ret
    exact ⟨fe, bbl⟩
   ·replace c7 := znf c7
    subst c7
    replace H := iF H
    by_cases c8 : a0_0 = 5
    ·rw [if_pos c8] at H
     have c8b0 := beq_iff_eq.mpr c8
     have c8b1 := bne_eq_false_iff_eq.mpr c8
     clear c8
     obtain rfl := zso H
     obtain ⟨_, _, _, _⟩ := bz BK235
     go_wp2
     go_ret
     exact ⟨fe, bbl⟩
    ·rw [if_neg c8] at H
     have c8b0 := beq_eq_false_iff_ne.mpr c8
     have c8b1 := bne_iff_ne.mpr c8
     by_cases c10 : a0_1 < 0
     ·rw [if_pos c10] at H
      have c10b0 : decide (a0_1 < 0) = true := decide_eq_true c10
      clear c10
      obtain rfl := zso H
      obtain ⟨_, _, _, _⟩ := bz BK235
      go_wp2
      go_ret
      exact ⟨fe, bbl⟩
     ·rw [if_neg c10] at H
      have c10b0 : decide (a0_1 < 0) = false := decide_eq_false c10
      clear c10
      obtain rfl := zso H
      obtain ⟨_, _, _, _⟩ := bz BK235
      go_wp2
      go_ret
      exact ⟨fe, bbl⟩
def r8_turned.f (a0_0 : Int) (a0_1 : Int) : Option (Int × Int) := if a0_0 = 4 then ((r8_Minus.f).bind fun bt238 => (some (bt238.1, bt238.2))) else (if a0_0 = 5 then ((r8_Plus.f).bind fun bt240 => (some (bt240.1, bt240.2))) else (some (a0_0, wrap64 (-a0_1))))
theorem r8_turned.calls (a0_0 : Int) (a0_1 : Int) (r1 : Int) (r2 : Int) (w : World) (h : r8_turned.f a0_0 a0_1 = some (r1, r2)) :
  Calls Tryz.prog 97 #[.agg #[.int .i64 a0_0, .int .i64 a0_1]] w fun e w' => e = .returned (.agg #[.int .i64 r1, .int .i64 r2]) ∧ Below w.heap.size w w' := by
 have hu25 := Tryz.underlying25
 have HB := zsB w
 have H : (if a0_0 = 4 then ((r8_Minus.f).bind fun bt238 => (some (bt238.1, bt238.2))) else (if a0_0 = 5 then ((r8_Plus.f).bind fun bt240 => (some (bt240.1, bt240.2))) else (some (a0_0, wrap64 (-a0_1))))) = some (r1, r2) := h
 clear h
 by_cases c2 : a0_0 = 4
 ·rw [if_pos c2] at H
  have c2b0 := beq_iff_eq.mpr c2
  have c2b1 := bne_eq_false_iff_eq.mpr c2
  clear c2
  obtain ⟨⟨t238, t239⟩, A3, H⟩ := bnd H
  replace H : (some (t238, t239)) = some (r1, r2) := H
  obtain ⟨rfl, rfl⟩ := zs2 H
  go_enter Tryz.func97, Tryz.ntmps97
  go_wp2_with (first | ((with_reducible refine gate_dst (N := 1) rfl ?_); refine bxe (N := 1) (cs := #[.int .i64 a0_0, .int .i64 a0_1]) (t := 25) ?_; intro gb236 hg w4 hbox hb; have BK236 := Sd.mk hbox; have GW236 := bge w hg; have GE236 := bge w hg; replace HB := bsq w hb; clear hb hbox hg) | ((with_reducible refine gate_dst (N := 2) rfl ?_); refine bxe (N := 2) (cs := #[.int .i64 0, .int .i64 0]) (t := 25) ?_; intro gb237 hg w5 hbox hb; have BK237 := Sd.mk hbox; have GW237 := bge w hg; have GE237 := bge w hg; have NB236_237 := bnl BK236 hg; have NB237_236 := bng BK236 hg; replace BK236 := bkb BK236 hb; replace HB := bsq w hb; clear hb hbox hg; have hnb6 := NB236_237.out; have hnc6 := NB237_236.out; have hcz7_0 := bz0 BK236; have hcz7_1 := bz1 BK236; have hfz7_0 := blk_frozen BK236.out 0; have hfz7_1 := blk_frozen BK236.out 1) | ((with_reducible refine gate_callee (f := 70) rfl ?_); refine goesL_ (some 7) rfl rfl Tryz.func70 (by kernel_rfl) rfl #[] rfl ma ?_; (with_reducible refine (r8_Minus.calls  t238 t239 _ A3.out).mono ?_); rintro e w8 ⟨rfl, hb⟩; refine ⟨_, rfl, ?_⟩; replace BK236 := bkb BK236 hb; replace BK237 := bkb BK237 hb; replace HB := bsq w hb; (try clear hb); have hcz9_0 := bz0 BK237; have hcz9_1 := bz1 BK237; have hfz9_0 := blk_frozen BK237.out 0; have hfz9_1 := blk_frozen BK237.out 1))
  refine bodyPost_ret (results_cell_row rfl _ _ gb237 25 #[.int .i64 t238, .int .i64 t239] (0, 0) _ rfl (by (repeat refine dw ?_); refine blk_put (cs := #[.int .i64 t238, .int .i64 0]) ?_ 1 _ rfl; (repeat refine dw ?_); refine blk_put (cs := #[.int .i64 0, .int .i64 0]) ?_ 0 _ rfl; (repeat refine dw ?_); exact BK237.out) Tryz.underlying25 rfl (by kernel_rfl)) rfl ?_
  exact ⟨fe, bbl⟩
 ·rw [if_neg c2] at H
  have c2b0 := beq_eq_false_iff_ne.mpr c2
  have c2b1 := bne_iff_ne.mpr c2
  by_cases c10 : a0_0 = 5
  ·rw [if_pos c10] at H
   have c10b0 := beq_iff_eq.mpr c10
   have c10b1 := bne_eq_false_iff_eq.mpr c10
   clear c10
   obtain ⟨⟨t240, t241⟩, A11, H⟩ := bnd H
   replace H : (some (t240, t241)) = some (r1, r2) := H
   obtain ⟨rfl, rfl⟩ := zs2 H
   go_enter Tryz.func97, Tryz.ntmps97
   go_wp2_with (first | ((with_reducible refine gate_dst (N := 1) rfl ?_); refine bxe (N := 1) (cs := #[.int .i64 a0_0, .int .i64 a0_1]) (t := 25) ?_; intro gb236 hg w12 hbox hb; have BK236 := Sd.mk hbox; have GW236 := bge w hg; have GE236 := bge w hg; replace HB := bsq w hb; clear hb hbox hg) | ((with_reducible refine gate_dst (N := 2) rfl ?_); refine bxe (N := 2) (cs := #[.int .i64 0, .int .i64 0]) (t := 25) ?_; intro gb237 hg w13 hbox hb; have BK237 := Sd.mk hbox; have GW237 := bge w hg; have GE237 := bge w hg; have NB236_237 := bnl BK236 hg; have NB237_236 := bng BK236 hg; replace BK236 := bkb BK236 hb; replace HB := bsq w hb; clear hb hbox hg; have hnb14 := NB236_237.out; have hnc14 := NB237_236.out; have hcz15_0 := bz0 BK236; have hcz15_1 := bz1 BK236; have hfz15_0 := blk_frozen BK236.out 0; have hfz15_1 := blk_frozen BK236.out 1) | ((with_reducible refine gate_callee (f := 69) rfl ?_); refine goesL_ (some 10) rfl rfl Tryz.func69 (by kernel_rfl) rfl #[] rfl ma ?_; (with_reducible refine (r8_Plus.calls  t240 t241 _ A11.out).mono ?_); rintro e w16 ⟨rfl, hb⟩; refine ⟨_, rfl, ?_⟩; replace BK236 := bkb BK236 hb; replace BK237 := bkb BK237 hb; replace HB := bsq w hb; (try clear hb); have hcz17_0 := bz0 BK237; have hcz17_1 := bz1 BK237; have hfz17_0 := blk_frozen BK237.out 0; have hfz17_1 := blk_frozen BK237.out 1))
   refine bodyPost_ret (results_cell_row rfl _ _ gb237 25 #[.int .i64 t240, .int .i64 t241] (0, 0) _ rfl (by (repeat refine dw ?_); refine blk_put (cs := #[.int .i64 t240, .int .i64 0]) ?_ 1 _ rfl; (repeat refine dw ?_); refine blk_put (cs := #[.int .i64 0, .int .i64 0]) ?_ 0 _ rfl; (repeat refine dw ?_); exact BK237.out) Tryz.underlying25 rfl (by kernel_rfl)) rfl ?_
   exact ⟨fe, bbl⟩
  ·rw [if_neg c10] at H
   have c10b0 := beq_eq_false_iff_ne.mpr c10
   have c10b1 := bne_iff_ne.mpr c10
   obtain ⟨rfl, rfl⟩ := zs2 H
   go_enter Tryz.func97, Tryz.ntmps97
   go_wp2_with (first | ((with_reducible refine gate_dst (N := 1) rfl ?_); refine bxe (N := 1) (cs := #[.int .i64 a0_0, .int .i64 a0_1]) (t := 25) ?_; intro gb236 hg w18 hbox hb; have BK236 := Sd.mk hbox; have GW236 := bge w hg; have GE236 := bge w hg; replace HB := bsq w hb; clear hb hbox hg) | ((with_reducible refine gate_dst (N := 2) rfl ?_); refine bxe (N := 2) (cs := #[.int .i64 0, .int .i64 0]) (t := 25) ?_; intro gb237 hg w19 hbox hb; have BK237 := Sd.mk hbox; have GW237 := bge w hg; have GE237 := bge w hg; have NB236_237 := bnl BK236 hg; have NB237_236 := bng BK236 hg; replace BK236 := bkb BK236 hb; replace HB := bsq w hb; clear hb hbox hg; have hnb20 := NB236_237.out; have hnc20 := NB237_236.out; have hcz21_0 := bz0 BK236; have hcz21_1 := bz1 BK236; have hfz21_0 := blk_frozen BK236.out 0; have hfz21_1 := blk_frozen BK236.out 1; have hcz22_0 := bz0 BK237; have hcz22_1 := bz1 BK237; have hfz22_0 := blk_frozen BK237.out 0; have hfz22_1 := blk_frozen BK237.out 1))
   refine bodyPost_ret (results_cell_row rfl _ _ gb237 25 #[.int .i64 a0_0, .int .i64 (wrap64 (-a0_1))] (0, 0) _ rfl (by (repeat refine dw ?_); refine blk_put (cs := #[.int .i64 a0_0, .int .i64 0]) ?_ 1 _ rfl; (repeat refine dw ?_); refine blk_put (cs := #[.int .i64 0, .int .i64 0]) ?_ 0 _ rfl; (repeat refine dw ?_); refine blk_far ?_ NB237_236.out _; (repeat refine dw ?_); exact BK237.out) Tryz.underlying25 rfl (by kernel_rfl)) rfl ?_
   exact ⟨fe, bbl⟩
def s_odd.f (a0_0 : Int) (a0_1 : Int) : Option (Bool) := if a0_0 = 2 then (some true) else (some (a0_0 == 3))
theorem s_odd.calls (a0_0 : Int) (a0_1 : Int) (r : Bool) (w : World) (h : s_odd.f a0_0 a0_1 = some r) :
  Calls Tryz.prog 37 #[.agg #[.int .i64 a0_0, .int .i64 a0_1]] w fun e w' => e = .returned (.bool r) ∧ Below w.heap.size w w' := by
 have hu25 := Tryz.underlying25
 have HB := zsB w
 have H : (if a0_0 = 2 then (some true) else (some (a0_0 == 3))) = some r := h
 clear h
 by_cases c2 : a0_0 = 2
 ·rw [if_pos c2] at H
  have c2b0 := beq_iff_eq.mpr c2
  have c2b1 := bne_eq_false_iff_eq.mpr c2
  clear c2
  obtain rfl := zso H
  go_enter Tryz.func37, Tryz.ntmps37
  go_wp2_with (first | ((with_reducible refine gate_dst (N := 1) rfl ?_); refine bxe (N := 1) (cs := #[.int .i64 a0_0, .int .i64 a0_1]) (t := 25) ?_; intro gb490 hg w3 hbox hb; have BK490 := Sd.mk hbox; have GW490 := bge w hg; have GE490 := bge w hg; replace HB := bsq w hb; clear hb hbox hg; have hcz4_0 := bz0 BK490; have hcz4_1 := bz1 BK490; have hfz4_0 := blk_frozen BK490.out 0; have hfz4_1 := blk_frozen BK490.out 1))
  go_ret
  exact ⟨fe, bbl⟩
 ·rw [if_neg c2] at H
  have c2b0 := beq_eq_false_iff_ne.mpr c2
  have c2b1 := bne_iff_ne.mpr c2
  obtain rfl := zso H
  go_enter Tryz.func37, Tryz.ntmps37
  go_wp2_with (first | ((with_reducible refine gate_dst (N := 1) rfl ?_); refine bxe (N := 1) (cs := #[.int .i64 a0_0, .int .i64 a0_1]) (t := 25) ?_; intro gb490 hg w5 hbox hb; have BK490 := Sd.mk hbox; have GW490 := bge w hg; have GE490 := bge w hg; replace HB := bsq w hb; clear hb hbox hg; have hcz6_0 := bz0 BK490; have hcz6_1 := bz1 BK490; have hfz6_0 := blk_frozen BK490.out 0; have hfz6_1 := blk_frozen BK490.out 1))
  go_ret
  exact ⟨fe, bbl⟩
def s_many.f (l0 : List (S39)) : Option (Int × Int) := (v_Num.f (wrap64 (1000 * (l0.length : Int)))).bind fun bt492 => (some (bt492.1, bt492.2))
theorem s_many.calls (A0 : Option Addr) (c0 : Nat) (l0 : List (S39)) (r1 : Int) (r2 : Int) (w : World) (hr0 : Kd.C k39 w A0 l0.length l0) (hc0 : l0.length ≤ c0) (h : s_many.f l0 = some (r1, r2)) :
  Calls Tryz.prog 38 #[.slice A0 l0.length c0] w fun e w' => e = .returned (.agg #[.int .i64 r1, .int .i64 r2]) ∧ Below w.heap.size w w' := by
 have hu25 := Tryz.underlying25
 have HR0 := Sd.mk hr0
 have HC0 := Sd.mk hc0
 clear hr0 hc0
 have HB := zsB w
 have H : ((v_Num.f (wrap64 (1000 * (l0.length : Int)))).bind fun bt492 => (some (bt492.1, bt492.2))) = some (r1, r2) := h
 clear h
 obtain ⟨⟨t492, t493⟩, A2, H⟩ := bnd H
 replace H : (some (t492, t493)) = some (r1, r2) := H
 obtain ⟨rfl, rfl⟩ := zs2 H
 go_enter Tryz.func38, Tryz.ntmps38
 go_wp2_with (first | ((with_reducible refine gate_dst (N := 2) rfl ?_); refine bxe (N := 2) (cs := #[.int .i64 0, .int .i64 0]) (t := 25) ?_; intro gb491 hg w3 hbox hb; have BK491 := Sd.mk hbox; have GW491 := bge w hg; replace HB := bsq w hb; clear hb hbox hg) | ((with_reducible refine gate_callee (f := 76) rfl ?_); refine goesL_ (some 6) rfl rfl Tryz.func76 (by kernel_rfl) rfl #[.int .i64 (wrap64 (1000 * (l0.length : Int)))] rfl ma ?_; (with_reducible refine (v_Num.calls (wrap64 (1000 * (l0.length : Int))) t492 t493 _ A2.out).mono ?_); rintro e w4 ⟨rfl, hb⟩; refine ⟨_, rfl, ?_⟩; replace BK491 := bkb BK491 hb; replace HB := bsq w hb; (try clear hb); have hcz5_0 := bz0 BK491; have hcz5_1 := bz1 BK491; have hfz5_0 := blk_frozen BK491.out 0; have hfz5_1 := blk_frozen BK491.out 1))
 refine bodyPost_ret (results_cell_row rfl _ _ gb491 25 #[.int .i64 t492, .int .i64 t493] (0, 0) _ rfl (by (repeat refine dw ?_); refine blk_put (cs := #[.int .i64 t492, .int .i64 0]) ?_ 1 _ rfl; (repeat refine dw ?_); refine blk_put (cs := #[.int .i64 0, .int .i64 0]) ?_ 0 _ rfl; (repeat refine dw ?_); exact BK491.out) Tryz.underlying25 rfl (by kernel_rfl)) rfl ?_
 exact ⟨fe, bbl⟩
def l10_num.f (a0 : Int) : Option (Int) := some a0
theorem l10_num.calls (a0 : Int) (r : Int) (w : World) (h : l10_num.f a0 = some r) :
  Calls Tryz.prog 12 #[.int .i64 a0] w fun e w' => e = .returned (.int .i64 r) ∧ Drawn0 w w' := by
 have H : (some a0) = some r := h
 clear h
 obtain rfl := zso H
 go_enter Tryz.func12, Tryz.ntmps12
 go_wp2
 go_ret
 exact ⟨ae, zdr⟩
def lb_Make_1.f (k : Nat) (a0_0 : ByteArray) (a0_1 : ByteArray) : Option (Bool) := (lb_nameOK.f k a0_0).bind fun t505 => (if t505 = true then (if a0_1.toList = ([] : List UInt8) then (some true) else (some (decide ((a0_1.size : Int) > 128)))) else (some true))
theorem lb_Make_1.calls (k : Nat) (a0_0 : ByteArray) (a0_1 : ByteArray) (r : Bool) (w : World) (h : lb_Make_1.f k a0_0 a0_1 = some r) :
  Calls Tryz.prog 142 #[.agg #[.string a0_0, .string a0_1]] w fun e w' => e = .returned (.bool r) ∧ Below w.heap.size w w' := by
 have hu62 := Tryz.underlying62
 have HB := zsB w
 have H : ((lb_nameOK.f k a0_0).bind fun t505 => (if t505 = true then (if a0_1.toList = ([] : List UInt8) then (some true) else (some (decide ((a0_1.size : Int) > 128)))) else (some true))) = some r := h
 clear h
 obtain ⟨t505, A2, H⟩ := bnd H
 by_cases c3 : t505 = true
 ·subst c3
  replace H := iT H
  by_cases c4 : a0_1.toList = ([] : List UInt8)
  ·rw [if_pos c4] at H
   have c4b0 : (a0_1.toList == ([] : List UInt8)) = true := beq_iff_eq.mpr c4
   have c4b1 : (a0_1.toList != ([] : List UInt8)) = false := bne_eq_false_iff_eq.mpr c4
   clear c4
   obtain rfl := zso H
   go_enter Tryz.func142, Tryz.ntmps142
   go_wp2_with (first | ((with_reducible refine gate_dst (N := 1) rfl ?_); (try (refine gate_guard (by rfl) ?_; dsimp only)); refine bxe (N := 1) (cs := #[.string a0_0, .string a0_1]) (t := 62) ?_; intro gb504 hg w5 hbox hb; have BK504 := Sd.mk hbox; have GW504 := bge w hg; have GE504 := bge w hg; replace HB := bsq w hb; clear hb hbox hg; have hcz6_0 := bz0 BK504; have hcz6_1 := bz1 BK504; have hfz6_0 := blk_frozen BK504.out 0; have hfz6_1 := blk_frozen BK504.out 1) | ((with_reducible refine gate_callee (f := 143) rfl ?_); refine goesL_ (some 5) rfl rfl Tryz.func143 (by kernel_rfl) rfl #[.string a0_0] rfl ma ?_; (with_reducible refine (lb_nameOK.calls k a0_0 true _ A2.out).mono ?_); rintro e w' ⟨rfl, ⟨nd, rfl⟩⟩; refine ⟨_, rfl, ?_⟩))
   go_ret
   exact ⟨fe, bbl⟩
  ·rw [if_neg c4] at H
   have c4b0 : (a0_1.toList == ([] : List UInt8)) = false := beq_eq_false_iff_ne.mpr c4
   have c4b1 : (a0_1.toList != ([] : List UInt8)) = true := bne_iff_ne.mpr c4
   obtain rfl := zso H
   go_enter Tryz.func142, Tryz.ntmps142
   go_wp2_with (first | ((with_reducible refine gate_dst (N := 1) rfl ?_); (try (refine gate_guard (by rfl) ?_; dsimp only)); refine bxe (N := 1) (cs := #[.string a0_0, .string a0_1]) (t := 62) ?_; intro gb504 hg w7 hbox hb; have BK504 := Sd.mk hbox; have GW504 := bge w hg; have GE504 := bge w hg; replace HB := bsq w hb; clear hb hbox hg; have hcz8_0 := bz0 BK504; have hcz8_1 := bz1 BK504; have hfz8_0 := blk_frozen BK504.out 0; have hfz8_1 := blk_frozen BK504.out 1) | ((with_reducible refine gate_callee (f := 143) rfl ?_); refine goesL_ (some 5) rfl rfl Tryz.func143 (by kernel_rfl) rfl #[.string a0_0] rfl ma ?_; (with_reducible refine (lb_nameOK.calls k a0_0 true _ A2.out).mono ?_); rintro e w' ⟨rfl, ⟨nd, rfl⟩⟩; refine ⟨_, rfl, ?_⟩))
   go_ret
   exact ⟨fe, bbl⟩
 ·replace c3 := znf c3
  subst c3
  replace H := iF H
  obtain rfl := zso H
  go_enter Tryz.func142, Tryz.ntmps142
  go_wp2_with (first | ((with_reducible refine gate_dst (N := 1) rfl ?_); (try (refine gate_guard (by rfl) ?_; dsimp only)); refine bxe (N := 1) (cs := #[.string a0_0, .string a0_1]) (t := 62) ?_; intro gb504 hg w9 hbox hb; have BK504 := Sd.mk hbox; have GW504 := bge w hg; have GE504 := bge w hg; replace HB := bsq w hb; clear hb hbox hg; have hcz10_0 := bz0 BK504; have hcz10_1 := bz1 BK504; have hfz10_0 := blk_frozen BK504.out 0; have hfz10_1 := blk_frozen BK504.out 1) | ((with_reducible refine gate_callee (f := 143) rfl ?_); refine goesL_ (some 5) rfl rfl Tryz.func143 (by kernel_rfl) rfl #[.string a0_0] rfl ma ?_; (with_reducible refine (lb_nameOK.calls k a0_0 false _ A2.out).mono ?_); rintro e w' ⟨rfl, ⟨nd, rfl⟩⟩; refine ⟨_, rfl, ?_⟩))
  go_ret
  exact ⟨fe, bbl⟩
def r10_Scalar.f (a0_0 : Int) (a0_1 : Int) : Option ((List (S37))) := some (([(⟨([] : List (S62)), (⟨a0_0, a0_1⟩ : S25)⟩ : S37)] : List (S37)))
theorem r10_Scalar.calls (a0_0 : Int) (a0_1 : Int) (r : List (S37)) (w : World) (h : r10_Scalar.f a0_0 a0_1 = some r) :
  Calls Tryz.prog 26 #[.agg #[.int .i64 a0_0, .int .i64 a0_1]] w fun e w' => ∃ v0_ : Value, e = .returned (v0_) ∧ Kd.S k37 37 w' w.heap.size (fun _ => True) v0_ r ∧ Below w.heap.size w w' := by
 have hu25 := Tryz.underlying25
 have hu37 := Tryz.underlying37
 have HB := zsB w
 have H : (some (([(⟨([] : List (S62)), (⟨a0_0, a0_1⟩ : S25)⟩ : S37)] : List (S37)))) = some r := h
 clear h
 obtain ⟨y510, hy510⟩ : ∃ y_ : List (S37), y_ = (([(⟨([] : List (S62)), (⟨a0_0, a0_1⟩ : S25)⟩ : S37)] : List (S37))) := ⟨_, rfl⟩
 replace H : (some y510) = some r := by first | (rw [hy510]; with_reducible exact H) | (have H2_ := (Option.bind_some _ _).symm.trans H; rw [hy510]; with_reducible exact H2_) | (have H2_ := (Option.bind_some _ _).symm.trans H; with_reducible exact H2_) | with_reducible exact H | (rw [hy510]; exact H) | exact H
 have Ny510 := Sd.mk hy510
 clear hy510
 obtain rfl := zso H
 go_enter Tryz.func26, Tryz.ntmps26
 go_wp2_with (first | ((with_reducible refine gate_dst (N := 1) rfl ?_); refine bxe (N := 1) (cs := #[.int .i64 a0_0, .int .i64 a0_1]) (t := 25) ?_; intro gb509 hg w2 hbox hb; have BK509 := Sd.mk hbox; have GW509 := bge w hg; replace HB := bsq w hb; clear hb hbox hg; have hcz3_0 := bz0 BK509; have hcz3_1 := bz1 BK509; have hfz3_0 := blk_frozen BK509.out 0; have hfz3_1 := blk_frozen BK509.out 1) | ((with_reducible refine gate_dst (N := 5) rfl ?_); refine Kd.S_lit k37 _ 37 ?hg (N := 5) ?hd (xs := ([(⟨([] : List (S62)), (⟨a0_0, a0_1⟩ : S25)⟩ : S37)] : List (S37))) (inner := [.slice none 0 0, .int .i64 a0_0, .int .i64 a0_1]) (ok := fun _ => True) (okp := fun _ => True) ?hr ?hp (fun _ hk => hk) trivial (Below.refl _ _) (Nat.le_refl _) (by simp) ?_; (case hd => rfl); (case hg => rfl); (case hr => first | (go_simp; done) | (go_simp; rfl)); (case hp => exact (Reps.c3 (show Kd.M k37 _ _ _ (⟨([] : List (S62)), (⟨a0_0, a0_1⟩ : S25)⟩ : S37) [.slice none 0 0, .int .i64 a0_0, .int .i64 a0_1] from (k37_mkM _ _ _ (⟨([] : List (S62)), (⟨a0_0, a0_1⟩ : S25)⟩ : S37) (Kd.R_nil _ _ _ _ _))) (Reps.none _ _))); intro v511 w4 ho5 hb hg_ hnew_; clear hg_ hnew_; (first | rw [← Ny510.out] at ho5 | (simp only [Int.reduceToNat] at ho5; rw [← Ny510.out] at ho5)); have n0_ := Sd.mk (Kd.S_lower ho5 (below_size bbl)); have n1_ := bkb BK509 hb; have n2_ := bsq w hb; clear BK509; clear HB; have HO512 := n0_; have BK509 := n1_; have HB := n2_; clear n0_ n1_ n2_; clear hb ho5))
 go_ret
 exact ⟨_, fe, by (with_reducible repeat (first | apply Kd.S_alloc | apply Kd.S_drewN | apply Kd.S_drew)); exact HO512.out, bbl⟩
def s_Scalar.f (a0_0 : Int) (a0_1 : Int) : Option ((List (S37))) := some (([(⟨([] : List (S62)), (⟨a0_0, a0_1⟩ : S25)⟩ : S37)] : List (S37)))
theorem s_Scalar.calls (a0_0 : Int) (a0_1 : Int) (r : List (S37)) (w : World) (h : s_Scalar.f a0_0 a0_1 = some r) :
  Calls Tryz.prog 20 #[.agg #[.int .i64 a0_0, .int .i64 a0_1]] w fun e w' => ∃ v0_ : Value, e = .returned (v0_) ∧ Kd.S k37 37 w' w.heap.size (fun _ => True) v0_ r ∧ Below w.heap.size w w' := by
 have hu25 := Tryz.underlying25
 have hu37 := Tryz.underlying37
 have HB := zsB w
 have H : (some (([(⟨([] : List (S62)), (⟨a0_0, a0_1⟩ : S25)⟩ : S37)] : List (S37)))) = some r := h
 clear h
 obtain ⟨y514, hy514⟩ : ∃ y_ : List (S37), y_ = (([(⟨([] : List (S62)), (⟨a0_0, a0_1⟩ : S25)⟩ : S37)] : List (S37))) := ⟨_, rfl⟩
 replace H : (some y514) = some r := by first | (rw [hy514]; with_reducible exact H) | (have H2_ := (Option.bind_some _ _).symm.trans H; rw [hy514]; with_reducible exact H2_) | (have H2_ := (Option.bind_some _ _).symm.trans H; with_reducible exact H2_) | with_reducible exact H | (rw [hy514]; exact H) | exact H
 have Ny514 := Sd.mk hy514
 clear hy514
 obtain rfl := zso H
 go_enter Tryz.func20, Tryz.ntmps20
 go_wp2_with (first | ((with_reducible refine gate_dst (N := 1) rfl ?_); refine bxe (N := 1) (cs := #[.int .i64 a0_0, .int .i64 a0_1]) (t := 25) ?_; intro gb513 hg w2 hbox hb; have BK513 := Sd.mk hbox; have GW513 := bge w hg; replace HB := bsq w hb; clear hb hbox hg; have hcz3_0 := bz0 BK513; have hcz3_1 := bz1 BK513; have hfz3_0 := blk_frozen BK513.out 0; have hfz3_1 := blk_frozen BK513.out 1) | ((with_reducible refine gate_dst (N := 5) rfl ?_); refine Kd.S_lit k37 _ 37 ?hg (N := 5) ?hd (xs := ([(⟨([] : List (S62)), (⟨a0_0, a0_1⟩ : S25)⟩ : S37)] : List (S37))) (inner := [.slice none 0 0, .int .i64 a0_0, .int .i64 a0_1]) (ok := fun _ => True) (okp := fun _ => True) ?hr ?hp (fun _ hk => hk) trivial (Below.refl _ _) (Nat.le_refl _) (by simp) ?_; (case hd => rfl); (case hg => rfl); (case hr => first | (go_simp; done) | (go_simp; rfl)); (case hp => exact (Reps.c3 (show Kd.M k37 _ _ _ (⟨([] : List (S62)), (⟨a0_0, a0_1⟩ : S25)⟩ : S37) [.slice none 0 0, .int .i64 a0_0, .int .i64 a0_1] from (k37_mkM _ _ _ (⟨([] : List (S62)), (⟨a0_0, a0_1⟩ : S25)⟩ : S37) (Kd.R_nil _ _ _ _ _))) (Reps.none _ _))); intro v515 w4 ho5 hb hg_ hnew_; clear hg_ hnew_; (first | rw [← Ny514.out] at ho5 | (simp only [Int.reduceToNat] at ho5; rw [← Ny514.out] at ho5)); have n0_ := Sd.mk (Kd.S_lower ho5 (below_size bbl)); have n1_ := bkb BK513 hb; have n2_ := bsq w hb; clear BK513; clear HB; have HO516 := n0_; have BK513 := n1_; have HB := n2_; clear n0_ n1_ n2_; clear hb ho5))
 go_ret
 exact ⟨_, fe, by (with_reducible repeat (first | apply Kd.S_alloc | apply Kd.S_drewN | apply Kd.S_drew)); exact HO516.out, bbl⟩
theorem code_loop (s : ByteArray) (hm : s.size < 9223372036854775807) : ∀ (d i : Nat), i + d = s.size → Ev (fun k => lb_nameOK.l0 k s (s.size : Int) (i : Int)) (okAll s i d && (decide (0 < s.size) && decide (s.size ≤ 64)))
 | 0, i, h => by
  rw [okAll, Bool.true_and]
  refine Ev.step (f := fun _ => some (decide (0 < s.size) && decide (s.size ≤ 64))) (fun k => ?_) (Ev.now _)
  simp only [lb_nameOK.l0]
  rw [if_neg (by omega)]
  by_cases he : s.toList = ([] : List UInt8)
  ·rw [if_pos he]
   have h0 : s.size = 0 := by
    have : s.toList.length = 0 := by rw [he]; rfl
    rw [Lib.toList_data] at this
    simpa using this
   rw [h0]; rfl
  ·rw [if_neg he]
   have h0 : 0 < s.size := by
    rcases Nat.eq_zero_or_pos s.size with h0 | h0
    ·exfalso; apply he
     rw [Lib.toList_data]
     exact List.eq_nil_of_length_eq_zero (by simpa using h0)
    ·exact h0
   rw [decide_eq_true h0, Bool.true_and]
   congr 1
   exact decide_eq_decide.2 (by omega)
 | d + 1, i, h => by
  have ih := code_loop s hm d (i + 1) (by omega)
  rw [okAll]
  have hd : ∀ (b : Bool) k, lb_nameOK.l0 (k + 1) s (s.size : Int) (i : Int) = lb_nameOK.j1 k s (i : Int) (bt s (i : Int)) (s.size : Int) (i : Int) (decide (97 ≤ bt s (i : Int) ∧ bt s (i : Int) ≤ 122)) := by
   intro b k
   simp only [lb_nameOK.l0]
   rw [if_pos (by omega), if_pos (by omega), if_pos (by omega)]
   by_cases h1 : bt s (i : Int) ≥ 97
   ·rw [if_pos h1]
    congr 1
    exact decide_eq_decide.2 (by omega)
   ·rw [if_neg h1, decide_eq_false (by omega)]
  refine Ev.step (hd true) ?_
  by_cases h1 : 97 ≤ bt s (i : Int) ∧ bt s (i : Int) ≤ 122
  ·have hc : okP (i : Int) (bt s (i : Int)) := .inl h1
   rw [decide_eq_true h1, decide_eq_true hc, Bool.true_and]
   refine Ev.step (fun k => ?_) ih
   simp only [lb_nameOK.j1]
   rw [if_pos trivial, wrap_nat (by omega)]
  ·rw [decide_eq_false h1]
   have hj : ∀ k, lb_nameOK.j1 (k + 1) s (i : Int) (bt s (i : Int)) (s.size : Int) (i : Int) false = lb_nameOK.j2 k s (i : Int) (bt s (i : Int)) (s.size : Int) (i : Int) (decide (65 ≤ bt s (i : Int) ∧ bt s (i : Int) ≤ 90)) := by
    intro k
    simp only [lb_nameOK.j1]
    rw [if_neg (by decide)]
    by_cases h2 : bt s (i : Int) ≥ 65
    ·rw [if_pos h2]
     congr 1
     exact decide_eq_decide.2 (by omega)
    ·rw [if_neg h2, decide_eq_false (by omega)]
   refine Ev.step hj ?_
   by_cases h2 : 65 ≤ bt s (i : Int) ∧ bt s (i : Int) ≤ 90
   ·have hc : okP (i : Int) (bt s (i : Int)) := .inr (.inl h2)
    rw [decide_eq_true h2, decide_eq_true hc, Bool.true_and]
    refine Ev.step (fun k => ?_) ih
    simp only [lb_nameOK.j2]
    rw [if_pos trivial, wrap_nat (by omega)]
   ·rw [decide_eq_false h2]
    by_cases hc : okP (i : Int) (bt s (i : Int))
    ·rw [decide_eq_true hc, Bool.true_and]
     refine Ev.step (fun k => ?_) ih
     simp only [lb_nameOK.j2]
     rw [if_neg (by decide), ← wrap_nat (by omega)]
     unfold okP at hc
     repeat' split
     all_goals first | rfl | (exfalso; omega)
    ·rw [decide_eq_false hc, Bool.false_and]
     refine Ev.step (f := fun _ => some false) (fun k => ?_) (Ev.now _)
     simp only [lb_nameOK.j2]
     rw [if_neg (by decide)]
     unfold okP at hc
     repeat' split
     all_goals first | rfl | (exfalso; omega)
theorem nameOK_ev (s : ByteArray) (hm : s.size < 9223372036854775807) : Ev (fun k => lb_nameOK.f k s) (isName s) := by
 have h := code_loop s hm s.size 0 (by omega)
 have e : (okAll s 0 s.size && (decide (0 < s.size) && decide (s.size ≤ 64))) = isName s := by
  unfold isName
  rw [Bool.and_comm]
 rw [e] at h
 exact h
/-- May a label be? -/
def isLab (x : S62) : Bool := isName x.f0 && (decide (1 ≤ x.f1.size) && decide (x.f1.size ≤ 128))
theorem size_zero (s : ByteArray) : s.toList = ([] : List UInt8) ↔ s.size = 0 := by
 rw [Lib.toList_data]
 constructor
 ·intro h; have : s.data.toList.length = 0 := by rw [h]; rfl
  simpa using this
 ·intro h; exact List.eq_nil_of_length_eq_zero (by simpa using h)
theorem badLab_ev (x : S62) (hm : x.f0.size < 9223372036854775807) : Ev (fun k => lb_Make_1.f k x.f0 x.f1) (!isLab x) := by
 unfold lb_Make_1.f
 refine Ev.bind (f := fun k t573 => (if t573 = true then (if x.f1.toList = ([] : List UInt8) then (some true) else (some (decide ((x.f1.size : Int) > 128)))) else (some true))) (nameOK_ev x.f0 hm) ?_
 unfold isLab
 refine Ev.congr (f := fun _ => some (!(isName x.f0 && (decide (1 ≤ x.f1.size) && decide (x.f1.size ≤ 128))))) (fun k => ?_) (Ev.now _)
 cases isName x.f0 with
 | false => simp
 | true =>
  simp only [if_true, Bool.true_and]
  by_cases h1 : x.f1.toList = ([] : List UInt8)
  ·have h0 := (size_zero _).1 h1
   rw [if_pos h1, decide_eq_false (show ¬ 1 ≤ x.f1.size by omega)]; rfl
  ·have h0 : x.f1.size ≠ 0 := fun h => h1 ((size_zero _).2 h)
   rw [if_neg h1, decide_eq_true (show 1 ≤ x.f1.size by omega), Bool.true_and]
   congr 1
   by_cases h2 : x.f1.size ≤ 128
   ·rw [decide_eq_true h2, decide_eq_false (by omega)]; rfl
   ·rw [decide_eq_false h2, decide_eq_true (by omega)]; rfl
end Go.Proofs.YtcmiehddjgfjaaaGreat.A
namespace Go.Proofs.YtcmiehddjgfjaaaGreat.Stable
section
variable {α : Type}
/-- 'lt' orders, up to equals. -/
structure Ord (lt : α → α → Bool) : Prop where
 trans : ∀ a b c, lt a b = true → lt b c = true → lt a c = true
 skip : ∀ z x y, lt z x = true → lt y x = false → lt z y = true
 asym : ∀ a b, lt a b = true → lt b a = false
variable (lt : α → α → Bool)
/-- Two lists in one; of equals the first list's come first. -/
def merge : List α → List α → List α
 | [], v => v
 | x :: u, [] => x :: u
 | x :: u, y :: v => if lt y x = true then y :: merge (x :: u) v else x :: merge u (y :: v)
theorem merge_nil (u : List α) : merge lt u [] = u := by cases u <;> rw [merge]
theorem nil_merge (v : List α) : merge lt [] v = v := by rw [merge]
theorem merge_length : ∀ u v : List α, (merge lt u v).length = u.length + v.length
 | [], v => by rw [merge]; simp
 | x :: u, [] => by rw [merge]; simp
 | x :: u, y :: v => by
  rw [merge]
  split
  ·rw [List.length_cons, merge_length (x :: u) v]; simp; omega
  ·rw [List.length_cons, merge_length u (y :: v)]; simp; omega
variable {lt}
theorem merge_assoc (h : Ord lt) : ∀ a b c : List α, merge lt (merge lt a b) c = merge lt a (merge lt b c)
 | [], b, c => by rw [merge, merge]
 | x :: a, [], c => by rw [merge, merge]
 | x :: a, y :: b, [] => by rw [merge_nil, merge_nil]
 | x :: a, y :: b, z :: c => by
  cases hyx : lt y x with
  | false =>
   cases hzx : lt z x with
   | true =>
    have hzy := h.skip z x y hzx hyx
    have e := merge_assoc h (x :: a) (y :: b) c
    have l1 : merge lt (x :: a) (y :: b) = x :: merge lt a (y :: b) := by rw [merge, if_neg (by simp [hyx])]
    have r1 : merge lt (y :: b) (z :: c) = z :: merge lt (y :: b) c := by rw [merge, if_pos hzy]
    rw [l1, merge, if_pos hzx, r1, merge, if_pos hzx, ← l1, e]
   | false =>
    have e := merge_assoc h a (y :: b) (z :: c)
    have l1 : merge lt (x :: a) (y :: b) = x :: merge lt a (y :: b) := by rw [merge, if_neg (by simp [hyx])]
    rw [l1, merge, if_neg (by simp [hzx]), e]
    cases hzy : lt z y with
    | true =>
     have r1 : merge lt (y :: b) (z :: c) = z :: merge lt (y :: b) c := by rw [merge, if_pos hzy]
     rw [r1, merge, if_neg (by simp [hzx])]
    | false =>
     have r1 : merge lt (y :: b) (z :: c) = y :: merge lt b (z :: c) := by rw [merge, if_neg (by simp [hzy])]
     rw [r1, merge, if_neg (by simp [hyx])]
  | true =>
   have l1 : merge lt (x :: a) (y :: b) = y :: merge lt (x :: a) b := by rw [merge, if_pos hyx]
   cases hzy : lt z y with
   | true =>
    have hzx := h.trans z y x hzy hyx
    have e := merge_assoc h (x :: a) (y :: b) c
    have r1 : merge lt (y :: b) (z :: c) = z :: merge lt (y :: b) c := by rw [merge, if_pos hzy]
    rw [l1, merge, if_pos hzy, r1, merge, if_pos hzx, ← l1, e]
   | false =>
    have e := merge_assoc h (x :: a) b (z :: c)
    have r1 : merge lt (y :: b) (z :: c) = y :: merge lt b (z :: c) := by rw [merge, if_neg (by simp [hzy])]
    rw [l1, merge, if_neg (by simp [hzy]), r1, merge, if_pos hyx, e]
termination_by a b c => a.length + b.length + c.length
theorem merge_split : ∀ (u1 v1 u2 v2 : List α), (∀ x ∈ u1, ∀ y ∈ v2, lt y x = false) → (∀ y ∈ v1, ∀ x ∈ u2, lt y x = true) → merge lt (u1 ++ u2) (v1 ++ v2) = merge lt u1 v1 ++ merge lt u2 v2
 | [], [], u2, v2, _, _ => by rw [merge]; rfl
 | x :: u1, [], u2, v2, h1, h2 => by
  have ih := merge_split u1 [] u2 v2 (fun a ha => h1 a (List.mem_cons_of_mem _ ha)) h2
  rw [List.nil_append] at ih ⊢
  rw [merge_nil] at ih ⊢
  cases v2 with
  | nil => rw [merge_nil, merge_nil]
  | cons y v2 =>
   rw [List.cons_append, merge, if_neg (by rw [h1 x List.mem_cons_self y List.mem_cons_self]; simp), ih]; rfl
 | [], y :: v1, u2, v2, h1, h2 => by
  have ih := merge_split [] v1 u2 v2 h1 (fun a ha => h2 a (List.mem_cons_of_mem _ ha))
  rw [List.nil_append] at ih ⊢
  rw [nil_merge] at ih ⊢
  cases u2 with
  | nil => rw [nil_merge, nil_merge]
  | cons x u2 =>
   rw [List.cons_append, merge, if_pos (h2 y List.mem_cons_self x List.mem_cons_self), ih]; rfl
 | x :: u1, y :: v1, u2, v2, h1, h2 => by
  rw [List.cons_append, List.cons_append, merge, merge]
  split
  ·have ih := merge_split (x :: u1) v1 u2 v2 h1 (fun a ha => h2 a (List.mem_cons_of_mem _ ha))
   rw [List.cons_append] at ih
   rw [ih]; rfl
  ·have ih := merge_split u1 (y :: v1) u2 v2 (fun a ha => h1 a (List.mem_cons_of_mem _ ha)) h2
   rw [List.cons_append] at ih
   rw [ih]; rfl
termination_by u1 v1 => u1.length + v1.length
variable (lt)
/-- None is ahead of one that stands before it. -/
def Sorted (l : List α) : Prop := l.Pairwise fun a b => lt b a = false
/-- The stable order. -/
def isort (l : List α) : List α := l.foldl (fun s x => merge lt s [x]) []
variable {lt}
theorem mem_merge : ∀ {u v : List α} {z : α}, z ∈ merge lt u v → z ∈ u ∨ z ∈ v
 | [], v, z, h => by rw [merge] at h; exact .inr h
 | x :: u, [], z, h => by rw [merge] at h; exact .inl h
 | x :: u, y :: v, z, h => by
  rw [merge] at h
  split at h
  ·rcases List.mem_cons.1 h with rfl | h
   ·exact .inr List.mem_cons_self
   ·rcases mem_merge h with h | h
    ·exact .inl h
    ·exact .inr (List.mem_cons_of_mem _ h)
  ·rcases List.mem_cons.1 h with rfl | h
   ·exact .inl List.mem_cons_self
   ·rcases mem_merge h with h | h
    ·exact .inl (List.mem_cons_of_mem _ h)
    ·exact .inr h
theorem Ord.le_trans (h : Ord lt) {a b c : α} (h1 : lt b a = false) (h2 : lt c b = false) : lt c a = false := by
 cases hc : lt c a with
 | false => rfl
 | true => exact absurd (h.skip c a b hc h1) (by simp [h2])
theorem merge_sorted (h : Ord lt) : ∀ {u v : List α}, Sorted lt u → Sorted lt v → Sorted lt (merge lt u v)
 | [], v, _, hv => by rw [merge]; exact hv
 | x :: u, [], hu, _ => by rw [merge]; exact hu
 | x :: u, y :: v, hu, hv => by
  obtain ⟨hu1, hu2⟩ := List.pairwise_cons.1 hu
  obtain ⟨hv1, hv2⟩ := List.pairwise_cons.1 hv
  rw [merge]
  split
  ·rename_i hyx
   refine List.pairwise_cons.2 ⟨fun z hz => ?_, merge_sorted h hu hv2⟩
   rcases mem_merge hz with hz | hz
   ·rcases List.mem_cons.1 hz with rfl | hz
    ·exact h.asym _ _ hyx
    ·exact h.le_trans (h.asym _ _ hyx) (hu1 z hz)
   ·exact hv1 z hz
  ·rename_i hyx
   have hyx' : lt y x = false := by simpa using hyx
   refine List.pairwise_cons.2 ⟨fun z hz => ?_, merge_sorted h hu2 hv⟩
   rcases mem_merge hz with hz | hz
   ·exact hu1 z hz
   ·rcases List.mem_cons.1 hz with rfl | hz
    ·exact hyx'
    ·exact h.le_trans hyx' (hv1 z hz)
termination_by u v => u.length + v.length
theorem foldl_merge (h : Ord lt) : ∀ (l s : List α), l.foldl (fun s x => merge lt s [x]) s = merge lt s (isort lt l)
 | [], s => by rw [isort, List.foldl_nil, List.foldl_nil, merge_nil]
 | x :: l, s => by
  rw [isort, List.foldl_cons, List.foldl_cons, foldl_merge h l, foldl_merge h l, nil_merge, merge_assoc h]
theorem isort_append (h : Ord lt) (a b : List α) : isort lt (a ++ b) = merge lt (isort lt a) (isort lt b) := by
 conv => lhs; rw [isort, List.foldl_append]
 rw [foldl_merge h b]; rfl
theorem isort_snoc (l : List α) (x : α) : isort lt (l ++ [x]) = merge lt (isort lt l) [x] := by
 rw [isort, List.foldl_append]; rfl
theorem isort_length (l : List α) : (isort lt l).length = l.length := by
 have : ∀ (l s : List α), (l.foldl (fun s x => merge lt s [x]) s).length = s.length + l.length := by
  intro l
  induction l with
  | nil => intro s; simp
  | cons x l ih => intro s; rw [List.foldl_cons, ih, merge_length]; simp; omega
 have := this l []
 simpa [isort] using this
theorem isort_sorted (h : Ord lt) (l : List α) : Sorted lt (isort lt l) := by
 have : ∀ (l s : List α), Sorted lt s → Sorted lt (l.foldl (fun s x => merge lt s [x]) s) := by
  intro l
  induction l with
  | nil => intro s hs; exact hs
  | cons x l ih => intro s hs; exact ih _ (merge_sorted h hs (List.pairwise_singleton _ _))
 exact this l [] List.Pairwise.nil
/-- One behind a sorted list goes where none ahead of it is greater, and all behind it are. -/
theorem merge_one (s1 s2 : List α) (x : α) (h1 : ∀ e ∈ s1, lt x e = false) (h2 : ∀ e ∈ s2, lt x e = true) : merge lt (s1 ++ s2) [x] = s1 ++ x :: s2 := by
 have := merge_split (lt := lt) s1 [] s2 [x] (fun a ha y hy => by rw [List.mem_singleton] at hy; subst hy; exact h1 a ha) (fun y hy => by cases hy)
 rw [List.nil_append, merge_nil] at this
 rw [this]
 congr 1
 have h3 := merge_split (lt := lt) [] [x] s2 [] (fun a ha => by cases ha) (fun y hy a ha => by rw [List.mem_singleton] at hy; subst hy; exact h2 a ha)
 rw [List.nil_append, List.append_nil, nil_merge, merge_nil] at h3
 exact h3
/-- One ahead of a sorted list. -/
theorem one_merge (v1 v2 : List α) (x : α) (h1 : ∀ e ∈ v1, lt e x = true) (h2 : ∀ e ∈ v2, lt e x = false) : merge lt [x] (v1 ++ v2) = v1 ++ x :: v2 := by
 have := merge_split (lt := lt) [] v1 [x] v2 (fun a ha => by cases ha) (fun y hy a ha => by rw [List.mem_singleton] at ha; subst ha; exact h1 y hy)
 rw [List.nil_append, nil_merge] at this
 rw [this]
 congr 1
 have h3 := merge_split (lt := lt) [x] [] [] v2 (fun a ha y hy => by rw [List.mem_singleton] at ha; subst ha; exact h2 y hy) (fun y hy => by cases hy)
 rw [List.nil_append, List.append_nil, nil_merge, merge_nil] at h3
 exact h3
theorem Sorted.getElem {l : List α} (hs : Sorted lt l) {i j : Nat} (hij : i < j) (hj : j < l.length) : lt l[j] (l[i]'(by omega)) = false := (List.pairwise_iff_getElem.1 hs) i j (by omega) hj hij
end
end Go.Proofs.YtcmiehddjgfjaaaGreat.Stable
namespace Go.Proofs.YtcmiehddjgfjaaaGreat.St
open Go.Proofs Go.Proofs.YtcmiehddjgfjaaaGreat.Stable
/-- A comparison: whoever is not behind is ahead, or alike; and so on. -/
structure Cmp3 {α : Type} (c : α → α → Int) : Prop where
 flip : ∀ x y, c x y < 0 ↔ 0 < c y x
 tr : ∀ x y z, c x y ≤ 0 → c y z ≤ 0 → c x z ≤ 0
section
variable {α β : Type} {c c1 c2 : α → α → Int}
theorem Cmp3.zero (h : Cmp3 c) {x y : α} : c x y = 0 ↔ c y x = 0 := by have := h.flip x y; have := h.flip y x; omega
theorem Cmp3.lt_tr (h : Cmp3 c) {x y z : α} (h1 : c x y < 0) (h2 : c y z ≤ 0) : c x z < 0 := by
 have a := h.tr x y z (by omega) h2
 by_cases e : c x z = 0
 ·have e' := h.zero.1 e
  have b := h.tr y z x h2 (by omega)
  have := h.flip x y
  omega
 ·omega
theorem Cmp3.tr_lt (h : Cmp3 c) {x y z : α} (h1 : c x y ≤ 0) (h2 : c y z < 0) : c x z < 0 := by
 have a := h.tr x y z h1 (by omega)
 by_cases e : c x z = 0
 ·have e' := h.zero.1 e
  have b := h.tr z x y (by omega) h1
  have := h.flip y z
  omega
 ·omega
theorem Cmp3.ord (h : Cmp3 c) : Ord (ltOf c) where
 trans := fun x y z h1 h2 => by
  have h1 : c x y < 0 := of_decide_eq_true h1
  have h2 : c y z < 0 := of_decide_eq_true h2
  exact decide_eq_true (h.lt_tr h1 (by omega))
 skip := fun z x y h1 h2 => by
  have h1 : c z x < 0 := of_decide_eq_true h1
  have h2 : ¬ c y x < 0 := of_decide_eq_false h2
  have := h.flip y x
  exact decide_eq_true (h.lt_tr h1 (by omega))
 asym := fun x y h1 => by
  have h1 : c x y < 0 := of_decide_eq_true h1
  have := h.flip x y
  exact decide_eq_false (by omega)
theorem Cmp3.map (h : Cmp3 c) (f : β → α) : Cmp3 (fun x y => c (f x) (f y)) := ⟨fun _ _ => h.flip _ _, fun _ _ _ => h.tr _ _ _⟩
/-- One comparison, and behind it, of those alike, another one. -/
def lexC (c1 c2 : α → α → Int) (x y : α) : Int := if c1 x y = 0 then c2 x y else c1 x y
theorem Cmp3.lex (h1 : Cmp3 c1) (h2 : Cmp3 c2) : Cmp3 (lexC c1 c2) where
 flip := fun x y => by
  unfold lexC
  by_cases e : c1 x y = 0
  ·rw [if_pos e, if_pos (h1.zero.1 e)]; exact h2.flip x y
  ·rw [if_neg e, if_neg (fun e' => e (h1.zero.1 e'))]; exact h1.flip x y
 tr := fun x y z a b => by
  unfold lexC at *
  by_cases e1 : c1 x y = 0
  ·rw [if_pos e1] at a
   by_cases e2 : c1 y z = 0
   ·rw [if_pos e2] at b
    have e1' := h1.zero.1 e1
    have e2' := h1.zero.1 e2
    have p := h1.tr x y z (by omega) (by omega)
    have q := h1.tr z y x (by omega) (by omega)
    have := h1.flip x z; have := h1.flip z x
    have e3 : c1 x z = 0 := by omega
    rw [if_pos e3]; exact h2.tr x y z a b
   ·rw [if_neg e2] at b
    have := h1.tr_lt (x := x) (y := y) (z := z) (by omega) (by omega)
    rw [if_neg (by omega)]; omega
  ·rw [if_neg e1] at a
   by_cases e2 : c1 y z = 0
   ·have := h1.lt_tr (x := x) (y := y) (z := z) (by omega) (by omega)
    rw [if_neg (by omega)]; omega
   ·rw [if_neg e2] at b
    have := h1.lt_tr (x := x) (y := y) (z := z) (by omega) (by omega)
    rw [if_neg (by omega)]; omega
end
theorem cmpB_flip : ∀ a b : List UInt8, Lib.compareBytes a b = - Lib.compareBytes b a
 | [], [] => rfl
 | [], _ :: _ => rfl
 | _ :: _, [] => rfl
 | a :: ar, b :: bt => by
  unfold Lib.compareBytes
  by_cases h1 : a < b
  ·have h2 : ¬ b < a := by rw [UInt8.lt_iff_toNat_lt] at *; omega
   rw [if_pos h1, if_neg h2, if_pos h1]
  ·by_cases h2 : b < a
   ·rw [if_neg h1, if_pos h2, if_pos h2]; rfl
   ·rw [if_neg h1, if_neg h2, if_neg h2, if_neg h1]; exact cmpB_flip ar bt
theorem cmpB_tr : ∀ a b c : List UInt8, Lib.compareBytes a b ≤ 0 → Lib.compareBytes b c ≤ 0 → Lib.compareBytes a c ≤ 0
 | [], _, [], _, _ => by simp [Lib.compareBytes]
 | [], _, _ :: _, _, _ => by simp [Lib.compareBytes]
 | _ :: _, [], _, h, _ => by simp [Lib.compareBytes] at h
 | _ :: _, _ :: _, [], _, h => by simp [Lib.compareBytes] at h
 | a :: ar, b :: bt, c :: ct, h1, h2 => by
  unfold Lib.compareBytes at h1 h2 ⊢
  simp only [UInt8.lt_iff_toNat_lt] at *
  by_cases x1 : a.toNat < b.toNat
  ·by_cases y1 : b.toNat < c.toNat
   ·rw [if_pos (by omega)]; omega
   ·rw [if_neg y1] at h2
    by_cases y2 : c.toNat < b.toNat
    ·rw [if_pos y2] at h2; omega
    ·rw [if_pos (by omega)]; omega
  ·rw [if_neg x1] at h1
   by_cases x2 : b.toNat < a.toNat
   ·rw [if_pos x2] at h1; omega
   ·rw [if_neg x2] at h1
    by_cases y1 : b.toNat < c.toNat
    ·rw [if_pos (by omega)]; omega
    ·rw [if_neg y1] at h2
     by_cases y2 : c.toNat < b.toNat
     ·rw [if_pos y2] at h2; omega
     ·rw [if_neg y2] at h2
      rw [if_neg (by omega), if_neg (by omega)]
      exact cmpB_tr ar bt ct h1 h2
def cmpS (x y : ByteArray) : Int := Lib.compareBytes x.data.toList y.data.toList
theorem cmpS3 : Cmp3 cmpS where
 flip := fun x y => by unfold cmpS; rw [cmpB_flip]; omega
 tr := fun x y z => cmpB_tr _ _ _
theorem cmpB_eq : ∀ a b : List UInt8, Lib.compareBytes a b = 0 ↔ a = b
 | [], [] => by simp [Lib.compareBytes]
 | [], _ :: _ => by simp [Lib.compareBytes]
 | _ :: _, [] => by simp [Lib.compareBytes]
 | a :: ar, b :: bt => by
  unfold Lib.compareBytes
  by_cases h1 : a < b
  ·rw [if_pos h1]
   have : a ≠ b := by rintro rfl; rw [UInt8.lt_iff_toNat_lt] at h1; omega
   simp [this]
  ·rw [if_neg h1]
   by_cases h2 : b < a
   ·rw [if_pos h2]
    have : a ≠ b := by rintro rfl; rw [UInt8.lt_iff_toNat_lt] at h2; omega
    simp [this]
   ·rw [if_neg h2, cmpB_eq ar bt]
    have : a = b := by rw [UInt8.lt_iff_toNat_lt] at *; exact UInt8.toNat_inj.1 (by omega)
    simp [this]
theorem cmpS_eq (x y : ByteArray) : cmpS x y = 0 ↔ x = y := by
 unfold cmpS
 rw [cmpB_eq]
 constructor
 ·intro h
  cases x; cases y
  congr 1
  exact Array.toList_inj.1 h
 ·rintro rfl; rfl
theorem toList_data (a : ByteArray) : a.toList = a.data.toList := Lib.toList_data a
theorem less_cmpB : ∀ a b : List UInt8, Go.Op.bytesLess a b = decide (Lib.compareBytes a b < 0)
 | [], [] => rfl
 | [], _ :: _ => rfl
 | _ :: _, [] => rfl
 | a :: ar, b :: bt => by
  unfold Go.Op.bytesLess Lib.compareBytes
  by_cases h1 : a < b
  ·simp [h1]
  ·by_cases h2 : b < a
   ·have : (a == b) = false := by
     rw [beq_eq_false_iff_ne]; rintro rfl; exact h1 h2
    simp [h1, h2, this]
   ·have : a = b := by rw [UInt8.lt_iff_toNat_lt] at *; exact UInt8.toNat_inj.1 (by omega)
    subst this
    simp [h1, less_cmpB ar bt]
theorem less_cmpS (a b : ByteArray) : Go.Op.bytesLess a.toList b.toList = decide (cmpS a b < 0) := by
 rw [toList_data, toList_data, less_cmpB]; rfl
theorem toList_eq (a b : ByteArray) : a.toList = b.toList ↔ a = b := by
 rw [toList_data, toList_data]
 constructor
 ·intro h; cases a; cases b; congr 1; exact Array.toList_inj.1 h
 ·rintro rfl; rfl
end Go.Proofs.YtcmiehddjgfjaaaGreat.St
namespace Go.Proofs.YtcmiehddjgfjaaaGreat.H
theorem less_flip : ∀ x y : List UInt8, (!(Op.bytesLess x y || x == y)) = Op.bytesLess y x
 | [], [] => rfl
 | [], b :: y => rfl
 | a :: x, [] => rfl
 | a :: x, b :: y => by
  have ih := less_flip x y
  simp only [Op.bytesLess]
  by_cases h1 : a < b
  ·have h2 : ¬ b < a := UInt8.lt_asymm h1
   have h3 : (b == a) = false := by
    rw [beq_eq_false_iff_ne]
    rintro rfl
    exact absurd h1 (UInt8.lt_irrefl _)
   simp [h1, h2, h3]
  ·by_cases h2 : b < a
   ·have h3 : (a == b) = false := by
     rw [beq_eq_false_iff_ne]
     rintro rfl
     exact absurd h2 (UInt8.lt_irrefl _)
    have h4 : ¬ (a :: x = b :: y) := by
     intro h
     injection h with h
     simp [h] at h3
    simp [h1, h2, h3, h4]
   ·have h3 : a = b := UInt8.le_antisymm (UInt8.not_lt.1 h2) (UInt8.not_lt.1 h1)
    subst h3
    rw [← ih]
    simp
theorem str_gtr (t : TypeId) (a b : ByteArray) : binOp .gtr t (.string a) (.string b) = pure (.bool (Op.bytesLess b.toList a.toList)) := by
 rw [← less_flip]
 simp [binOp, Op.stringOp]
theorem str_leq (t : TypeId) (a b : ByteArray) : binOp .leq t (.string a) (.string b) = pure (.bool !(Op.bytesLess b.toList a.toList)) := by
 rw [← less_flip]
 simp [binOp, Op.stringOp]
theorem str_geq (t : TypeId) (a b : ByteArray) : binOp .geq t (.string a) (.string b) = pure (.bool !(Op.bytesLess a.toList b.toList)) := by simp [binOp, Op.stringOp]
end Go.Proofs.YtcmiehddjgfjaaaGreat.H
namespace Go.Proofs.YtcmiehddjgfjaaaGreat.A
open Go.RowKit Go.Proofs.YtcmiehddjgfjaaaGreatW.PrintWords Go.Proofs.YtcmiehddjgfjaaaGreatW.PrintLast Go.Proofs.YtcmiehddjgfjaaaGreatW.PrintMore
attribute [local go_sem] H.str_gtr H.str_leq H.str_geq
attribute [local go_sem] max2_int min2_int max_two min_two max_three min_three max_four min_four   -- for this text's walks alone
def r9_order.f (a0 : ByteArray) (a1 : ByteArray) : Option (Int) := if (Op.bytesLess a0.toList a1.toList) = true then (some (-1)) else (if (Op.bytesLess a1.toList a0.toList) = true then (some 1) else (some 0))
theorem r9_order.calls (a0 : ByteArray) (a1 : ByteArray) (r : Int) (w : World) (h : r9_order.f a0 a1 = some r) :
  Calls Tryz.prog 108 #[.string a0, .string a1] w fun e w' => e = .returned (.int .i64 r) ∧ Drawn0 w w' := by
 have H : (if (Op.bytesLess a0.toList a1.toList) = true then (some (-1)) else (if (Op.bytesLess a1.toList a0.toList) = true then (some 1) else (some 0))) = some r := h
 clear h
 by_cases c3 : (Op.bytesLess a0.toList a1.toList) = true
 ·rw [if_pos c3] at H
  have c3b0 : (Op.bytesLess a0.toList a1.toList) = true := c3
  clear c3
  obtain rfl := zso H
  go_enter Tryz.func108, Tryz.ntmps108
  go_wp2
  go_ret
  exact ⟨ae, zdr⟩
 ·rw [if_neg c3] at H
  have c3b0 : (Op.bytesLess a0.toList a1.toList) = false := by simpa using c3
  clear c3
  by_cases c4 : (Op.bytesLess a1.toList a0.toList) = true
  ·rw [if_pos c4] at H
   have c4b0 : (Op.bytesLess a1.toList a0.toList) = true := c4
   clear c4
   obtain rfl := zso H
   go_enter Tryz.func108, Tryz.ntmps108
   go_wp2
   go_ret
   exact ⟨ae, zdr⟩
  ·rw [if_neg c4] at H
   have c4b0 : (Op.bytesLess a1.toList a0.toList) = false := by simpa using c4
   clear c4
   obtain rfl := zso H
   go_enter Tryz.func108, Tryz.ntmps108
   go_wp2
   go_ret
   exact ⟨ae, zdr⟩
mutual
def r9_Compare.l0 : Nat → List (S62) → List (S62) → Int → Option (Int)
 | 0, _, _, _ => none
 | k + 1, x0, x1, x5 => if x5 < (x0.length : Int) then (r9_Compare.j1 k x0 x1 x5 (decide (x5 < (x1.length : Int)))) else (r9_Compare.j1 k x0 x1 x5 false)
def r9_Compare.j1 : Nat → List (S62) → List (S62) → Int → Bool → Option (Int)
 | 0, _, _, _, _ => none
 | k + 1, x0, x1, x5, x16 => if x16 = true then (if 0 ≤ x5 then (if x5 < (x0.length : Int) then (if x5 < (x1.length : Int) then ((r9_order.f ((rd_T62 x0 x5).f0) ((rd_T62 x1 x5).f0)).bind fun t401 => (if t401 = 0 then ((r9_order.f ((rd_T62 x0 x5).f1) ((rd_T62 x1 x5).f1)).bind fun t404 => (if t404 = 0 then (r9_Compare.l0 k x0 x1 (wrap64 (x5 + 1))) else (some t404))) else (some t401))) else (none)) else (none)) else (none)) else (if (x0.length : Int) < (x1.length : Int) then (some (-1)) else (if (x0.length : Int) > (x1.length : Int) then (some 1) else (some 0)))
end
def r9_Compare.f (k : Nat) (l0 : List (S62)) (l1 : List (S62)) : Option (Int) := r9_Compare.l0 k l0 l1 0
theorem r9_Compare.calls (k : Nat) (A0 : Option Addr) (c0 : Nat) (l0 : List (S62)) (A1 : Option Addr) (c1 : Nat) (l1 : List (S62)) (r : Int) (w : World) (hr0 : Kd.C k62 w A0 l0.length l0) (hc0 : l0.length ≤ c0) (hr1 : Kd.C k62 w A1 l1.length l1) (hc1 : l1.length ≤ c1) (h : r9_Compare.f k l0 l1 = some r) :
  Calls Tryz.prog 67 #[.slice A0 l0.length c0, .slice A1 l1.length c1] w fun e w' => e = .returned (.int .i64 r) ∧ Drawn0 w w' := by
 have HR0 := Sd.mk hr0
 have HC0 := Sd.mk hc0
 clear hr0 hc0
 have HR1 := Sd.mk hr1
 have HC1 := Sd.mk hc1
 clear hr1 hc1
 have H : (r9_Compare.l0 k l0 l1 0) = some r := h
 clear h
 have H' := Sd.mk H
 clear H
 go_enter Tryz.func67, Tryz.ntmps67
 go_wp2
 repeat (go_quiet (fail); try go_wp2)
 go_loopg [5] k (fun kq v5 w' => ∃ (x5_1 : Int), v5 = .int .i64 x5_1 ∧ Sd (r9_Compare.l0 kq l0 l1 x5_1 = some r) ∧ Sd (kq ≤ k) ∧ Drawn0 w w')
 case atStart => exact ⟨(0), ae, H', ⟨Nat.le_refl _⟩, zdr⟩
 case round =>
  clear H'
  obtain ⟨x5_1, rfl, HA, HK1, ⟨m1, rfl⟩⟩ := hrel
  cases gk with
  | zero => exact absurd HA.out (by simp [r9_Compare.l0])
  | succ k1 =>
   have H := HA.out
   clear HA
   simp only [r9_Compare.l0] at H
   have HC3 := Sd.mk H
   clear H
   go_upto_region 2 with (fail)
   repeat (go_quiet (fail); go_upto_region 2 with (fail))
   go_cut [16] (fun v16 wc => ∃ (kq : Nat) (x16_2 : Bool), v16 = .bool x16_2 ∧ Sd (r9_Compare.j1 kq l0 l1 x5_1 x16_2 = some r) ∧ Sd (kq ≤ k1) ∧ Drawn0 w wc)
   case first =>
    have H := HC3.out
    clear HC3
    by_cases c4 : x5_1 < (l0.length : Int)
    ·rw [if_pos c4] at H
     have c4b0 : decide (x5_1 < (l0.length : Int)) = true := decide_eq_true c4
     clear c4
     (first | rw [c4b0] | (simp only [i64_w, i32_w]; rw [c4b0]) | skip)
     have H' := Sd.mk H
     clear H
     go_wp2
     repeat (go_quiet (fail); try go_wp2)
     go_meet
     case rel => exact ⟨_, (decide (x5_1 < (l1.length : Int))), ae, H', ⟨by have := HK1.out; first | omega | exact Nat.le_refl _⟩, zdr⟩
    ·rw [if_neg c4] at H
     have c4b0 : decide (x5_1 < (l0.length : Int)) = false := decide_eq_false c4
     clear c4
     (first | rw [c4b0] | (simp only [i64_w, i32_w]; rw [c4b0]) | skip)
     have H' := Sd.mk H
     clear H
     go_wp2
     repeat (go_quiet (fail); try go_wp2)
     go_meet
     case rel => exact ⟨_, (false), ae, H', ⟨by have := HK1.out; first | omega | exact Nat.le_refl _⟩, zdr⟩
   case rest =>
    clear HC3
    obtain ⟨kq, x16_2, rfl, HA, HJ2, ⟨mc2, rfl⟩⟩ := hcut
    cases kq with
    | zero => exact absurd HA.out (by simp [r9_Compare.j1])
    | succ kj2 =>
     have H := HA.out
     clear HA
     simp only [r9_Compare.j1] at H
     by_cases c5 : x16_2 = true
     ·subst c5
      replace H := iT H
      by_cases c6 : 0 ≤ x5_1
      ·rw [if_pos c6] at H
       have c6b0 : decide (0 ≤ x5_1) = true := decide_eq_true c6
       clear c6
       by_cases c7 : x5_1 < (l0.length : Int)
       ·rw [if_pos c7] at H
        have c7b0 : decide (x5_1 < (l0.length : Int)) = true := decide_eq_true c7
        clear c7
        by_cases c8 : x5_1 < (l1.length : Int)
        ·rw [if_pos c8] at H
         have c8b0 : decide (x5_1 < (l1.length : Int)) = true := decide_eq_true c8
         clear c8
         obtain ⟨t401, A9, H⟩ := bnd H
         by_cases c10 : t401 = 0
         ·rw [if_pos c10] at H
          have c10b0 := beq_iff_eq.mpr c10
          have c10b1 := bne_eq_false_iff_eq.mpr c10
          clear c10
          obtain ⟨t404, A11, H⟩ := bnd H
          by_cases c12 : t404 = 0
          ·rw [if_pos c12] at H
           have c12b0 := beq_iff_eq.mpr c12
           have c12b1 := bne_eq_false_iff_eq.mpr c12
           clear c12
           have H' := Sd.mk H
           clear H
           have p399 : 0 ≤ (x5_1 : Int) := ode
           have q399 : x5_1 < (l0.length : Int) := ode
           obtain ⟨ad399, e399, hx399_0, hx399_1⟩ := at_T62 HR0.out x5_1 p399 q399
           cases e399
           replace p399 := eq_true p399
           replace q399 := eq_true q399
           have p400 : 0 ≤ (x5_1 : Int) := ode
           have q400 : x5_1 < (l1.length : Int) := ode
           obtain ⟨ad400, e400, hx400_0, hx400_1⟩ := at_T62 HR1.out x5_1 p400 q400
           cases e400
           replace p400 := eq_true p400
           replace q400 := eq_true q400
           go_wp2_with (first | (go_at_call 108; (with_reducible refine (r9_order.calls ((rd_T62 l0 x5_1).f0) ((rd_T62 l1 x5_1).f0) t401 _ A9.out).mono ?_); rintro e w' ⟨rfl, ⟨nd, rfl⟩⟩; (try first | exact ⟨rfl, _, World.drewN_drewN _ _ _⟩ | exact ⟨rfl, _, Eq.trans (World.drewN_drewN _ _ _) (congrArg (World.drewN _) (Nat.add_assoc _ _ _))⟩); have p402 : 0 ≤ (x5_1 : Int) := ode; have q402 : x5_1 < (l0.length : Int) := ode; obtain ⟨ad402, e402, hx402_0, hx402_1⟩ := at_T62 HR0.out x5_1 p402 q402; obtain rfl : ad399 = ad402 := (by injection e402); replace p402 := eq_true p402; replace q402 := eq_true q402; have p403 : 0 ≤ (x5_1 : Int) := ode; have q403 : x5_1 < (l1.length : Int) := ode; obtain ⟨ad403, e403, hx403_0, hx403_1⟩ := at_T62 HR1.out x5_1 p403 q403; obtain rfl : ad400 = ad403 := (by injection e403); replace p403 := eq_true p403; replace q403 := eq_true q403) | (go_at_call 108; (with_reducible refine (r9_order.calls ((rd_T62 l0 x5_1).f1) ((rd_T62 l1 x5_1).f1) t404 _ A11.out).mono ?_); rintro e w' ⟨rfl, ⟨nd, rfl⟩⟩; (try first | exact ⟨rfl, _, World.drewN_drewN _ _ _⟩ | exact ⟨rfl, _, Eq.trans (World.drewN_drewN _ _ _) (congrArg (World.drewN _) (Nat.add_assoc _ _ _))⟩)))
           repeat (go_quiet (first | (go_at_call 108; (with_reducible refine (r9_order.calls ((rd_T62 l0 x5_1).f0) ((rd_T62 l1 x5_1).f0) t401 _ A9.out).mono ?_); rintro e w' ⟨rfl, ⟨nd, rfl⟩⟩; (try first | exact ⟨rfl, _, World.drewN_drewN _ _ _⟩ | exact ⟨rfl, _, Eq.trans (World.drewN_drewN _ _ _) (congrArg (World.drewN _) (Nat.add_assoc _ _ _))⟩); have p402 : 0 ≤ (x5_1 : Int) := ode; have q402 : x5_1 < (l0.length : Int) := ode; obtain ⟨ad402, e402, hx402_0, hx402_1⟩ := at_T62 HR0.out x5_1 p402 q402; obtain rfl : ad399 = ad402 := (by injection e402); replace p402 := eq_true p402; replace q402 := eq_true q402; have p403 : 0 ≤ (x5_1 : Int) := ode; have q403 : x5_1 < (l1.length : Int) := ode; obtain ⟨ad403, e403, hx403_0, hx403_1⟩ := at_T62 HR1.out x5_1 p403 q403; obtain rfl : ad400 = ad403 := (by injection e403); replace p403 := eq_true p403; replace q403 := eq_true q403) | (go_at_call 108; (with_reducible refine (r9_order.calls ((rd_T62 l0 x5_1).f1) ((rd_T62 l1 x5_1).f1) t404 _ A11.out).mono ?_); rintro e w' ⟨rfl, ⟨nd, rfl⟩⟩; (try first | exact ⟨rfl, _, World.drewN_drewN _ _ _⟩ | exact ⟨rfl, _, Eq.trans (World.drewN_drewN _ _ _) (congrArg (World.drewN _) (Nat.add_assoc _ _ _))⟩))); try go_wp2_with (first | (go_at_call 108; (with_reducible refine (r9_order.calls ((rd_T62 l0 x5_1).f0) ((rd_T62 l1 x5_1).f0) t401 _ A9.out).mono ?_); rintro e w' ⟨rfl, ⟨nd, rfl⟩⟩; (try first | exact ⟨rfl, _, World.drewN_drewN _ _ _⟩ | exact ⟨rfl, _, Eq.trans (World.drewN_drewN _ _ _) (congrArg (World.drewN _) (Nat.add_assoc _ _ _))⟩); have p402 : 0 ≤ (x5_1 : Int) := ode; have q402 : x5_1 < (l0.length : Int) := ode; obtain ⟨ad402, e402, hx402_0, hx402_1⟩ := at_T62 HR0.out x5_1 p402 q402; obtain rfl : ad399 = ad402 := (by injection e402); replace p402 := eq_true p402; replace q402 := eq_true q402; have p403 : 0 ≤ (x5_1 : Int) := ode; have q403 : x5_1 < (l1.length : Int) := ode; obtain ⟨ad403, e403, hx403_0, hx403_1⟩ := at_T62 HR1.out x5_1 p403 q403; obtain rfl : ad400 = ad403 := (by injection e403); replace p403 := eq_true p403; replace q403 := eq_true q403) | (go_at_call 108; (with_reducible refine (r9_order.calls ((rd_T62 l0 x5_1).f1) ((rd_T62 l1 x5_1).f1) t404 _ A11.out).mono ?_); rintro e w' ⟨rfl, ⟨nd, rfl⟩⟩; (try first | exact ⟨rfl, _, World.drewN_drewN _ _ _⟩ | exact ⟨rfl, _, Eq.trans (World.drewN_drewN _ _ _) (congrArg (World.drewN _) (Nat.add_assoc _ _ _))⟩))))
           go_roundg kj2
           case measure => have := HK1.out; have := HJ2.out; omega
           case rel => exact ⟨(wrap64 (x5_1 + 1)), ae, H', ⟨by have := HK1.out; have := HJ2.out; omega⟩, zdr⟩
          ·rw [if_neg c12] at H
           have c12b0 := beq_eq_false_iff_ne.mpr c12
           have c12b1 := bne_iff_ne.mpr c12
           obtain rfl := zso H
           have p399 : 0 ≤ (x5_1 : Int) := ode
           have q399 : x5_1 < (l0.length : Int) := ode
           obtain ⟨ad399, e399, hx399_0, hx399_1⟩ := at_T62 HR0.out x5_1 p399 q399
           cases e399
           replace p399 := eq_true p399
           replace q399 := eq_true q399
           have p400 : 0 ≤ (x5_1 : Int) := ode
           have q400 : x5_1 < (l1.length : Int) := ode
           obtain ⟨ad400, e400, hx400_0, hx400_1⟩ := at_T62 HR1.out x5_1 p400 q400
           cases e400
           replace p400 := eq_true p400
           replace q400 := eq_true q400
           go_wp2_with (first | (go_at_call 108; (with_reducible refine (r9_order.calls ((rd_T62 l0 x5_1).f0) ((rd_T62 l1 x5_1).f0) t401 _ A9.out).mono ?_); rintro e w' ⟨rfl, ⟨nd, rfl⟩⟩; (try first | exact ⟨rfl, _, World.drewN_drewN _ _ _⟩ | exact ⟨rfl, _, Eq.trans (World.drewN_drewN _ _ _) (congrArg (World.drewN _) (Nat.add_assoc _ _ _))⟩); have p402 : 0 ≤ (x5_1 : Int) := ode; have q402 : x5_1 < (l0.length : Int) := ode; obtain ⟨ad402, e402, hx402_0, hx402_1⟩ := at_T62 HR0.out x5_1 p402 q402; obtain rfl : ad399 = ad402 := (by injection e402); replace p402 := eq_true p402; replace q402 := eq_true q402; have p403 : 0 ≤ (x5_1 : Int) := ode; have q403 : x5_1 < (l1.length : Int) := ode; obtain ⟨ad403, e403, hx403_0, hx403_1⟩ := at_T62 HR1.out x5_1 p403 q403; obtain rfl : ad400 = ad403 := (by injection e403); replace p403 := eq_true p403; replace q403 := eq_true q403) | (go_at_call 108; (with_reducible refine (r9_order.calls ((rd_T62 l0 x5_1).f1) ((rd_T62 l1 x5_1).f1) t404 _ A11.out).mono ?_); rintro e w' ⟨rfl, ⟨nd, rfl⟩⟩; (try first | exact ⟨rfl, _, World.drewN_drewN _ _ _⟩ | exact ⟨rfl, _, Eq.trans (World.drewN_drewN _ _ _) (congrArg (World.drewN _) (Nat.add_assoc _ _ _))⟩)))
           repeat (go_quiet (first | (go_at_call 108; (with_reducible refine (r9_order.calls ((rd_T62 l0 x5_1).f0) ((rd_T62 l1 x5_1).f0) t401 _ A9.out).mono ?_); rintro e w' ⟨rfl, ⟨nd, rfl⟩⟩; (try first | exact ⟨rfl, _, World.drewN_drewN _ _ _⟩ | exact ⟨rfl, _, Eq.trans (World.drewN_drewN _ _ _) (congrArg (World.drewN _) (Nat.add_assoc _ _ _))⟩); have p402 : 0 ≤ (x5_1 : Int) := ode; have q402 : x5_1 < (l0.length : Int) := ode; obtain ⟨ad402, e402, hx402_0, hx402_1⟩ := at_T62 HR0.out x5_1 p402 q402; obtain rfl : ad399 = ad402 := (by injection e402); replace p402 := eq_true p402; replace q402 := eq_true q402; have p403 : 0 ≤ (x5_1 : Int) := ode; have q403 : x5_1 < (l1.length : Int) := ode; obtain ⟨ad403, e403, hx403_0, hx403_1⟩ := at_T62 HR1.out x5_1 p403 q403; obtain rfl : ad400 = ad403 := (by injection e403); replace p403 := eq_true p403; replace q403 := eq_true q403) | (go_at_call 108; (with_reducible refine (r9_order.calls ((rd_T62 l0 x5_1).f1) ((rd_T62 l1 x5_1).f1) t404 _ A11.out).mono ?_); rintro e w' ⟨rfl, ⟨nd, rfl⟩⟩; (try first | exact ⟨rfl, _, World.drewN_drewN _ _ _⟩ | exact ⟨rfl, _, Eq.trans (World.drewN_drewN _ _ _) (congrArg (World.drewN _) (Nat.add_assoc _ _ _))⟩))); try go_wp2_with (first | (go_at_call 108; (with_reducible refine (r9_order.calls ((rd_T62 l0 x5_1).f0) ((rd_T62 l1 x5_1).f0) t401 _ A9.out).mono ?_); rintro e w' ⟨rfl, ⟨nd, rfl⟩⟩; (try first | exact ⟨rfl, _, World.drewN_drewN _ _ _⟩ | exact ⟨rfl, _, Eq.trans (World.drewN_drewN _ _ _) (congrArg (World.drewN _) (Nat.add_assoc _ _ _))⟩); have p402 : 0 ≤ (x5_1 : Int) := ode; have q402 : x5_1 < (l0.length : Int) := ode; obtain ⟨ad402, e402, hx402_0, hx402_1⟩ := at_T62 HR0.out x5_1 p402 q402; obtain rfl : ad399 = ad402 := (by injection e402); replace p402 := eq_true p402; replace q402 := eq_true q402; have p403 : 0 ≤ (x5_1 : Int) := ode; have q403 : x5_1 < (l1.length : Int) := ode; obtain ⟨ad403, e403, hx403_0, hx403_1⟩ := at_T62 HR1.out x5_1 p403 q403; obtain rfl : ad400 = ad403 := (by injection e403); replace p403 := eq_true p403; replace q403 := eq_true q403) | (go_at_call 108; (with_reducible refine (r9_order.calls ((rd_T62 l0 x5_1).f1) ((rd_T62 l1 x5_1).f1) t404 _ A11.out).mono ?_); rintro e w' ⟨rfl, ⟨nd, rfl⟩⟩; (try first | exact ⟨rfl, _, World.drewN_drewN _ _ _⟩ | exact ⟨rfl, _, Eq.trans (World.drewN_drewN _ _ _) (congrArg (World.drewN _) (Nat.add_assoc _ _ _))⟩))))
           go_ret
           exact ⟨ae, zdr⟩
         ·rw [if_neg c10] at H
          have c10b0 := beq_eq_false_iff_ne.mpr c10
          have c10b1 := bne_iff_ne.mpr c10
          obtain rfl := zso H
          have p399 : 0 ≤ (x5_1 : Int) := ode
          have q399 : x5_1 < (l0.length : Int) := ode
          obtain ⟨ad399, e399, hx399_0, hx399_1⟩ := at_T62 HR0.out x5_1 p399 q399
          cases e399
          replace p399 := eq_true p399
          replace q399 := eq_true q399
          have p400 : 0 ≤ (x5_1 : Int) := ode
          have q400 : x5_1 < (l1.length : Int) := ode
          obtain ⟨ad400, e400, hx400_0, hx400_1⟩ := at_T62 HR1.out x5_1 p400 q400
          cases e400
          replace p400 := eq_true p400
          replace q400 := eq_true q400
          go_wp2_with (first | (go_at_call 108; (with_reducible refine (r9_order.calls ((rd_T62 l0 x5_1).f0) ((rd_T62 l1 x5_1).f0) t401 _ A9.out).mono ?_); rintro e w' ⟨rfl, ⟨nd, rfl⟩⟩; (try first | exact ⟨rfl, _, World.drewN_drewN _ _ _⟩ | exact ⟨rfl, _, Eq.trans (World.drewN_drewN _ _ _) (congrArg (World.drewN _) (Nat.add_assoc _ _ _))⟩)))
          repeat (go_quiet (first | (go_at_call 108; (with_reducible refine (r9_order.calls ((rd_T62 l0 x5_1).f0) ((rd_T62 l1 x5_1).f0) t401 _ A9.out).mono ?_); rintro e w' ⟨rfl, ⟨nd, rfl⟩⟩; (try first | exact ⟨rfl, _, World.drewN_drewN _ _ _⟩ | exact ⟨rfl, _, Eq.trans (World.drewN_drewN _ _ _) (congrArg (World.drewN _) (Nat.add_assoc _ _ _))⟩))); try go_wp2_with (first | (go_at_call 108; (with_reducible refine (r9_order.calls ((rd_T62 l0 x5_1).f0) ((rd_T62 l1 x5_1).f0) t401 _ A9.out).mono ?_); rintro e w' ⟨rfl, ⟨nd, rfl⟩⟩; (try first | exact ⟨rfl, _, World.drewN_drewN _ _ _⟩ | exact ⟨rfl, _, Eq.trans (World.drewN_drewN _ _ _) (congrArg (World.drewN _) (Nat.add_assoc _ _ _))⟩))))
          go_ret
          exact ⟨ae, zdr⟩
        ·rw [if_neg c8] at H
         exact absurd H (by simp)
       ·rw [if_neg c7] at H
        exact absurd H (by simp)
      ·rw [if_neg c6] at H
       exact absurd H (by simp)
     ·replace c5 := znf c5
      subst c5
      replace H := iF H
      by_cases c13 : (l0.length : Int) < (l1.length : Int)
      ·rw [if_pos c13] at H
       have c13b0 : decide ((l0.length : Int) < (l1.length : Int)) = true := decide_eq_true c13
       have c13b1 : decide (l0.length < l1.length) = true := decide_eq_true (Int.ofNat_lt.mp c13)
       clear c13
       obtain rfl := zso H
       go_wp2
       repeat (go_quiet (fail); try go_wp2)
       go_ret
       exact ⟨ae, zdr⟩
      ·rw [if_neg c13] at H
       have c13b0 : decide ((l0.length : Int) < (l1.length : Int)) = false := decide_eq_false c13
       have c13b1 : decide (l0.length < l1.length) = false := decide_eq_false (fun h => c13 (Int.ofNat_lt.mpr h))
       clear c13
       by_cases c14 : (l0.length : Int) > (l1.length : Int)
       ·rw [if_pos c14] at H
        have c14b0 : decide ((l1.length : Int) < (l0.length : Int)) = true := decide_eq_true c14
        have c14b1 : decide (l1.length < l0.length) = true := decide_eq_true (Int.ofNat_lt.mp c14)
        clear c14
        obtain rfl := zso H
        go_wp2
        repeat (go_quiet (fail); try go_wp2)
        go_ret
        exact ⟨ae, zdr⟩
       ·rw [if_neg c14] at H
        have c14b0 : decide ((l1.length : Int) < (l0.length : Int)) = false := decide_eq_false c14
        have c14b1 : decide (l1.length < l0.length) = false := decide_eq_false (fun h => c14 (Int.ofNat_lt.mpr h))
        clear c14
        obtain rfl := zso H
        go_wp2
        repeat (go_quiet (fail); try go_wp2)
        go_ret
        exact ⟨ae, zdr⟩
def r9_Get.l0 : Nat → List (S62) → ByteArray → Int → Option (ByteArray)
 | 0, _, _, _ => none
 | k + 1, x0, x1, x5 => if x5 < (x0.length : Int) then (if 0 ≤ x5 then (if ((rd_T62 x0 x5).f0).toList = x1.toList then (some ((rd_T62 x0 x5).f1)) else (r9_Get.l0 k x0 x1 (wrap64 (x5 + 1)))) else (none)) else (some (⟨#[]⟩ : ByteArray))
def r9_Get.f (k : Nat) (l0 : List (S62)) (a1 : ByteArray) : Option (ByteArray) := r9_Get.l0 k l0 a1 0
theorem r9_Get.calls (k : Nat) (A0 : Option Addr) (c0 : Nat) (l0 : List (S62)) (a1 : ByteArray) (r : ByteArray) (w : World) (hr0 : Kd.C k62 w A0 l0.length l0) (hc0 : l0.length ≤ c0) (h : r9_Get.f k l0 a1 = some r) :
  Calls Tryz.prog 109 #[.slice A0 l0.length c0, .string a1] w fun e w' => e = .returned (.string r) ∧ Drawn0 w w' := by
 have HR0 := Sd.mk hr0
 have HC0 := Sd.mk hc0
 clear hr0 hc0
 have H : (r9_Get.l0 k l0 a1 0) = some r := h
 clear h
 have H' := Sd.mk H
 clear H
 go_enter Tryz.func109, Tryz.ntmps109
 go_wp2
 go_loopg [5] k (fun kq v5 w' => ∃ (x5_1 : Int), v5 = .int .i64 x5_1 ∧ Sd (r9_Get.l0 kq l0 a1 x5_1 = some r) ∧ Sd (kq ≤ k) ∧ Drawn0 w w')
 case atStart => exact ⟨(0), ae, H', ⟨Nat.le_refl _⟩, zdr⟩
 case round =>
  clear H'
  obtain ⟨x5_1, rfl, HA, HK1, ⟨m1, rfl⟩⟩ := hrel
  cases gk with
  | zero => exact absurd HA.out (by simp [r9_Get.l0])
  | succ k1 =>
   have H := HA.out
   clear HA
   simp only [r9_Get.l0] at H
   by_cases c3 : x5_1 < (l0.length : Int)
   ·rw [if_pos c3] at H
    have c3b0 : decide (x5_1 < (l0.length : Int)) = true := decide_eq_true c3
    clear c3
    by_cases c4 : 0 ≤ x5_1
    ·rw [if_pos c4] at H
     have c4b0 : decide (0 ≤ x5_1) = true := decide_eq_true c4
     clear c4
     by_cases c5 : ((rd_T62 l0 x5_1).f0).toList = a1.toList
     ·rw [if_pos c5] at H
      have c5b0 : (((rd_T62 l0 x5_1).f0).toList == a1.toList) = true := beq_iff_eq.mpr c5
      have c5b1 : (((rd_T62 l0 x5_1).f0).toList != a1.toList) = false := bne_eq_false_iff_eq.mpr c5
      clear c5
      obtain rfl := zso H
      have p405 : 0 ≤ (x5_1 : Int) := ode
      have q405 : x5_1 < (l0.length : Int) := ode
      obtain ⟨ad405, e405, hx405_0, hx405_1⟩ := at_T62 HR0.out x5_1 p405 q405
      cases e405
      replace p405 := eq_true p405
      replace q405 := eq_true q405
      have p406 : 0 ≤ (x5_1 : Int) := ode
      have q406 : x5_1 < (l0.length : Int) := ode
      obtain ⟨ad406, e406, hx406_0, hx406_1⟩ := at_T62 HR0.out x5_1 p406 q406
      obtain rfl : ad405 = ad406 := (by injection e406)
      replace p406 := eq_true p406
      replace q406 := eq_true q406
      go_wp2
      go_ret
      exact ⟨ae, zdr⟩
     ·rw [if_neg c5] at H
      have c5b0 : (((rd_T62 l0 x5_1).f0).toList == a1.toList) = false := beq_eq_false_iff_ne.mpr c5
      have c5b1 : (((rd_T62 l0 x5_1).f0).toList != a1.toList) = true := bne_iff_ne.mpr c5
      have H' := Sd.mk H
      clear H
      have p405 : 0 ≤ (x5_1 : Int) := ode
      have q405 : x5_1 < (l0.length : Int) := ode
      obtain ⟨ad405, e405, hx405_0, hx405_1⟩ := at_T62 HR0.out x5_1 p405 q405
      cases e405
      replace p405 := eq_true p405
      replace q405 := eq_true q405
      go_wp2
      go_roundg k1
      case measure => have := HK1.out; omega
      case rel => exact ⟨(wrap64 (x5_1 + 1)), ae, H', ⟨by have := HK1.out; omega⟩, zdr⟩
    ·rw [if_neg c4] at H
     exact absurd H (by simp)
   ·rw [if_neg c3] at H
    have c3b0 : decide (x5_1 < (l0.length : Int)) = false := decide_eq_false c3
    clear c3
    obtain rfl := zso H
    go_wp2
    go_ret
    exact ⟨ae, zdr⟩
def r10_within.l0 : Nat → List (S62) → List (S62) → Int → Option (Bool)
 | 0, _, _, _ => none
 | k + 1, x0, x1, x5 => if x5 < (x0.length : Int) then (if 0 ≤ x5 then ((r9_Get.f k x1 ((rd_T62 x0 x5).f0)).bind fun t408 => (if t408.toList = ((rd_T62 x0 x5).f1).toList then (r10_within.l0 k x0 x1 (wrap64 (x5 + 1))) else (some false))) else (none)) else (some true)
def r10_within.f (k : Nat) (l0 : List (S62)) (l1 : List (S62)) : Option (Bool) := r10_within.l0 k l0 l1 0
theorem r10_within.calls (k : Nat) (A0 : Option Addr) (c0 : Nat) (l0 : List (S62)) (A1 : Option Addr) (c1 : Nat) (l1 : List (S62)) (r : Bool) (w : World) (hr0 : Kd.C k62 w A0 l0.length l0) (hc0 : l0.length ≤ c0) (hr1 : Kd.C k62 w A1 l1.length l1) (hc1 : l1.length ≤ c1) (h : r10_within.f k l0 l1 = some r) :
  Calls Tryz.prog 68 #[.slice A0 l0.length c0, .slice A1 l1.length c1] w fun e w' => e = .returned (.bool r) ∧ Drawn0 w w' := by
 have HR0 := Sd.mk hr0
 have HC0 := Sd.mk hc0
 clear hr0 hc0
 have HR1 := Sd.mk hr1
 have HC1 := Sd.mk hc1
 clear hr1 hc1
 have H : (r10_within.l0 k l0 l1 0) = some r := h
 clear h
 have H' := Sd.mk H
 clear H
 go_enter Tryz.func68, Tryz.ntmps68
 go_wp2
 repeat (go_quiet (fail); try go_wp2)
 go_loopg [5] k (fun kq v5 w' => ∃ (x5_1 : Int), v5 = .int .i64 x5_1 ∧ Sd (r10_within.l0 kq l0 l1 x5_1 = some r) ∧ Sd (kq ≤ k) ∧ Drawn0 w w')
 case atStart => exact ⟨(0), ae, H', ⟨Nat.le_refl _⟩, zdr⟩
 case round =>
  clear H'
  obtain ⟨x5_1, rfl, HA, HK1, ⟨m1, rfl⟩⟩ := hrel
  cases gk with
  | zero => exact absurd HA.out (by simp [r10_within.l0])
  | succ k1 =>
   have H := HA.out
   clear HA
   simp only [r10_within.l0] at H
   by_cases c3 : x5_1 < (l0.length : Int)
   ·rw [if_pos c3] at H
    have c3b0 : decide (x5_1 < (l0.length : Int)) = true := decide_eq_true c3
    clear c3
    by_cases c4 : 0 ≤ x5_1
    ·rw [if_pos c4] at H
     have c4b0 : decide (0 ≤ x5_1) = true := decide_eq_true c4
     clear c4
     obtain ⟨t408, A5, H⟩ := bnd H
     by_cases c6 : t408.toList = ((rd_T62 l0 x5_1).f1).toList
     ·rw [if_pos c6] at H
      have c6b0 : (t408.toList == ((rd_T62 l0 x5_1).f1).toList) = true := beq_iff_eq.mpr c6
      have c6b1 : (t408.toList != ((rd_T62 l0 x5_1).f1).toList) = false := bne_eq_false_iff_eq.mpr c6
      clear c6
      have H' := Sd.mk H
      clear H
      have p407 : 0 ≤ (x5_1 : Int) := ode
      have q407 : x5_1 < (l0.length : Int) := ode
      obtain ⟨ad407, e407, hx407_0, hx407_1⟩ := at_T62 HR0.out x5_1 p407 q407
      cases e407
      replace p407 := eq_true p407
      replace q407 := eq_true q407
      go_wp2_with (first | (go_at_call 109; (with_reducible refine (r9_Get.calls k1 _ _ l1 ((rd_T62 l0 x5_1).f0) t408 _ ?side1 ?side2 A5.out).mono ?_); (case side1 => repeat (first | exact HR1.out | (with_reducible refine Kd.C_alloc ?_ _) | (with_reducible refine Kd.C_drewN ?_ _) | (with_reducible refine Kd.C_drew ?_))); (case side2 => exact HC1.out); rintro e w' ⟨rfl, ⟨nd, rfl⟩⟩; (try first | exact ⟨rfl, _, World.drewN_drewN _ _ _⟩ | exact ⟨rfl, _, Eq.trans (World.drewN_drewN _ _ _) (congrArg (World.drewN _) (Nat.add_assoc _ _ _))⟩); have p409 : 0 ≤ (x5_1 : Int) := ode; have q409 : x5_1 < (l0.length : Int) := ode; obtain ⟨ad409, e409, hx409_0, hx409_1⟩ := at_T62 HR0.out x5_1 p409 q409; obtain rfl : ad407 = ad409 := (by injection e409); replace p409 := eq_true p409; replace q409 := eq_true q409))
      repeat (go_quiet (first | (go_at_call 109; (with_reducible refine (r9_Get.calls k1 _ _ l1 ((rd_T62 l0 x5_1).f0) t408 _ ?side1 ?side2 A5.out).mono ?_); (case side1 => repeat (first | exact HR1.out | (with_reducible refine Kd.C_alloc ?_ _) | (with_reducible refine Kd.C_drewN ?_ _) | (with_reducible refine Kd.C_drew ?_))); (case side2 => exact HC1.out); rintro e w' ⟨rfl, ⟨nd, rfl⟩⟩; (try first | exact ⟨rfl, _, World.drewN_drewN _ _ _⟩ | exact ⟨rfl, _, Eq.trans (World.drewN_drewN _ _ _) (congrArg (World.drewN _) (Nat.add_assoc _ _ _))⟩); have p409 : 0 ≤ (x5_1 : Int) := ode; have q409 : x5_1 < (l0.length : Int) := ode; obtain ⟨ad409, e409, hx409_0, hx409_1⟩ := at_T62 HR0.out x5_1 p409 q409; obtain rfl : ad407 = ad409 := (by injection e409); replace p409 := eq_true p409; replace q409 := eq_true q409)); try go_wp2_with (first | (go_at_call 109; (with_reducible refine (r9_Get.calls k1 _ _ l1 ((rd_T62 l0 x5_1).f0) t408 _ ?side1 ?side2 A5.out).mono ?_); (case side1 => repeat (first | exact HR1.out | (with_reducible refine Kd.C_alloc ?_ _) | (with_reducible refine Kd.C_drewN ?_ _) | (with_reducible refine Kd.C_drew ?_))); (case side2 => exact HC1.out); rintro e w' ⟨rfl, ⟨nd, rfl⟩⟩; (try first | exact ⟨rfl, _, World.drewN_drewN _ _ _⟩ | exact ⟨rfl, _, Eq.trans (World.drewN_drewN _ _ _) (congrArg (World.drewN _) (Nat.add_assoc _ _ _))⟩); have p409 : 0 ≤ (x5_1 : Int) := ode; have q409 : x5_1 < (l0.length : Int) := ode; obtain ⟨ad409, e409, hx409_0, hx409_1⟩ := at_T62 HR0.out x5_1 p409 q409; obtain rfl : ad407 = ad409 := (by injection e409); replace p409 := eq_true p409; replace q409 := eq_true q409)))
      go_roundg k1
      case measure => have := HK1.out; omega
      case rel => exact ⟨(wrap64 (x5_1 + 1)), ae, H', ⟨by have := HK1.out; omega⟩, zdr⟩
     ·rw [if_neg c6] at H
      have c6b0 : (t408.toList == ((rd_T62 l0 x5_1).f1).toList) = false := beq_eq_false_iff_ne.mpr c6
      have c6b1 : (t408.toList != ((rd_T62 l0 x5_1).f1).toList) = true := bne_iff_ne.mpr c6
      obtain rfl := zso H
      have p407 : 0 ≤ (x5_1 : Int) := ode
      have q407 : x5_1 < (l0.length : Int) := ode
      obtain ⟨ad407, e407, hx407_0, hx407_1⟩ := at_T62 HR0.out x5_1 p407 q407
      cases e407
      replace p407 := eq_true p407
      replace q407 := eq_true q407
      go_wp2_with (first | (go_at_call 109; (with_reducible refine (r9_Get.calls k1 _ _ l1 ((rd_T62 l0 x5_1).f0) t408 _ ?side1 ?side2 A5.out).mono ?_); (case side1 => repeat (first | exact HR1.out | (with_reducible refine Kd.C_alloc ?_ _) | (with_reducible refine Kd.C_drewN ?_ _) | (with_reducible refine Kd.C_drew ?_))); (case side2 => exact HC1.out); rintro e w' ⟨rfl, ⟨nd, rfl⟩⟩; (try first | exact ⟨rfl, _, World.drewN_drewN _ _ _⟩ | exact ⟨rfl, _, Eq.trans (World.drewN_drewN _ _ _) (congrArg (World.drewN _) (Nat.add_assoc _ _ _))⟩); have p409 : 0 ≤ (x5_1 : Int) := ode; have q409 : x5_1 < (l0.length : Int) := ode; obtain ⟨ad409, e409, hx409_0, hx409_1⟩ := at_T62 HR0.out x5_1 p409 q409; obtain rfl : ad407 = ad409 := (by injection e409); replace p409 := eq_true p409; replace q409 := eq_true q409))
      repeat (go_quiet (first | (go_at_call 109; (with_reducible refine (r9_Get.calls k1 _ _ l1 ((rd_T62 l0 x5_1).f0) t408 _ ?side1 ?side2 A5.out).mono ?_); (case side1 => repeat (first | exact HR1.out | (with_reducible refine Kd.C_alloc ?_ _) | (with_reducible refine Kd.C_drewN ?_ _) | (with_reducible refine Kd.C_drew ?_))); (case side2 => exact HC1.out); rintro e w' ⟨rfl, ⟨nd, rfl⟩⟩; (try first | exact ⟨rfl, _, World.drewN_drewN _ _ _⟩ | exact ⟨rfl, _, Eq.trans (World.drewN_drewN _ _ _) (congrArg (World.drewN _) (Nat.add_assoc _ _ _))⟩); have p409 : 0 ≤ (x5_1 : Int) := ode; have q409 : x5_1 < (l0.length : Int) := ode; obtain ⟨ad409, e409, hx409_0, hx409_1⟩ := at_T62 HR0.out x5_1 p409 q409; obtain rfl : ad407 = ad409 := (by injection e409); replace p409 := eq_true p409; replace q409 := eq_true q409)); try go_wp2_with (first | (go_at_call 109; (with_reducible refine (r9_Get.calls k1 _ _ l1 ((rd_T62 l0 x5_1).f0) t408 _ ?side1 ?side2 A5.out).mono ?_); (case side1 => repeat (first | exact HR1.out | (with_reducible refine Kd.C_alloc ?_ _) | (with_reducible refine Kd.C_drewN ?_ _) | (with_reducible refine Kd.C_drew ?_))); (case side2 => exact HC1.out); rintro e w' ⟨rfl, ⟨nd, rfl⟩⟩; (try first | exact ⟨rfl, _, World.drewN_drewN _ _ _⟩ | exact ⟨rfl, _, Eq.trans (World.drewN_drewN _ _ _) (congrArg (World.drewN _) (Nat.add_assoc _ _ _))⟩); have p409 : 0 ≤ (x5_1 : Int) := ode; have q409 : x5_1 < (l0.length : Int) := ode; obtain ⟨ad409, e409, hx409_0, hx409_1⟩ := at_T62 HR0.out x5_1 p409 q409; obtain rfl : ad407 = ad409 := (by injection e409); replace p409 := eq_true p409; replace q409 := eq_true q409)))
      go_ret
      exact ⟨ae, zdr⟩
    ·rw [if_neg c4] at H
     exact absurd H (by simp)
   ·rw [if_neg c3] at H
    have c3b0 : decide (x5_1 < (l0.length : Int)) = false := decide_eq_false c3
    clear c3
    obtain rfl := zso H
    go_wp2
    repeat (go_quiet (fail); try go_wp2)
    go_ret
    exact ⟨ae, zdr⟩
open Go.Proofs.YtcmiehddjgfjaaaGreat.St Go.Proofs.YtcmiehddjgfjaaaGreat.Stable
abbrev Lab := S62
theorem rdL_at {xs : List Lab} {i : Nat} (h : i < xs.length) : rd_T62 xs (i : Int) = xs[i] := by
 unfold rd_T62
 rw [Int.toNat_natCast, List.getD_eq_getElem?_getD, List.getElem?_eq_getElem h]; rfl
/-- A text of a size that a text can have. -/
def LabOk (x : Lab) : Prop := x.f0.size < 9223372036854775807
def LabsOk (l : List Lab) : Prop := l.length < 4611686018427387904 ∧ ∀ x ∈ l, LabOk x
theorem LabsOk.at {l : List Lab} (h : LabsOk l) {i : Nat} (hi : i < l.length) : LabOk l[i] := h.2 _ (List.getElem_mem hi)
theorem cmpB_range : ∀ a b : List UInt8, Lib.compareBytes a b = -1 ∨ Lib.compareBytes a b = 0 ∨ Lib.compareBytes a b = 1
 | [], [] => .inr (.inl rfl)
 | [], _ :: _ => .inl rfl
 | _ :: _, [] => .inr (.inr rfl)
 | a :: ar, b :: bt => by
  unfold Lib.compareBytes
  split
  ·exact .inl rfl
  ·split
   ·exact .inr (.inr rfl)
   ·exact cmpB_range ar bt
theorem cmpS_range (a b : ByteArray) : cmpS a b = -1 ∨ cmpS a b = 0 ∨ cmpS a b = 1 := cmpB_range _ _
theorem order_is (a b : ByteArray) : r9_order.f a b = some (cmpS a b) := by
 unfold r9_order.f
 rw [less_cmpS, less_cmpS]
 have h := cmpS_range a b
 have hf := cmpS3.flip b a
 by_cases h1 : cmpS a b < 0
 ·rw [decide_eq_true h1, if_pos rfl]
  congr 1; omega
 ·rw [decide_eq_false h1, if_neg (by decide)]
  by_cases h2 : cmpS b a < 0
  ·rw [decide_eq_true h2, if_pos rfl]
   congr 1; omega
  ·rw [decide_eq_false h2, if_neg (by decide)]
   congr 1; omega
def cmpLab : Lab → Lab → Int := lexC (fun x y => cmpS x.f0 y.f0) (fun x y => cmpS x.f1 y.f1)
theorem cmpLab3 : Cmp3 cmpLab := (cmpS3.map S62.f0).lex (cmpS3.map S62.f1)
theorem cmpLab_eq {x y : Lab} : cmpLab x y = 0 ↔ x = y := by
 unfold cmpLab lexC
 constructor
 ·intro h
  split at h
  ·rename_i h0
   obtain ⟨x0, x1⟩ := x
   obtain ⟨y0, y1⟩ := y
   have a := (cmpS_eq _ _).1 h0
   have b := (cmpS_eq _ _).1 h
   simp only at a b
   subst a; subst b; rfl
  ·exact absurd h (by assumption)
 ·rintro rfl
  rw [if_pos ((cmpS_eq _ _).2 rfl)]
  exact (cmpS_eq _ _).2 rfl
def cmpL : List Lab → List Lab → Int
 | [], [] => 0
 | [], _ :: _ => -1
 | _ :: _, [] => 1
 | x :: a, y :: b => if cmpLab x y = 0 then cmpL a b else cmpLab x y
theorem cmpL_flip : ∀ a b : List Lab, cmpL a b < 0 ↔ 0 < cmpL b a
 | [], [] => by simp [cmpL]
 | [], _ :: _ => by simp [cmpL]
 | _ :: _, [] => by simp [cmpL]
 | x :: a, y :: b => by
  rw [cmpL, cmpL]
  by_cases e : cmpLab x y = 0
  ·rw [if_pos e, if_pos (cmpLab3.zero.1 e)]; exact cmpL_flip a b
  ·rw [if_neg e, if_neg (fun e' => e (cmpLab3.zero.1 e'))]; exact cmpLab3.flip x y
theorem cmpL_tr : ∀ a b c : List Lab, cmpL a b ≤ 0 → cmpL b c ≤ 0 → cmpL a c ≤ 0
 | [], _, [], _, _ => by simp [cmpL]
 | [], _, _ :: _, _, _ => by simp [cmpL]
 | _ :: _, [], _, h, _ => by simp [cmpL] at h
 | _ :: _, _ :: _, [], _, h => by simp [cmpL] at h
 | x :: a, y :: b, z :: c, h1, h2 => by
  rw [cmpL] at h1 h2 ⊢
  by_cases e1 : cmpLab x y = 0
  ·rw [if_pos e1] at h1
   obtain rfl := cmpLab_eq.1 e1
   by_cases e2 : cmpLab x z = 0
   ·rw [if_pos e2] at h2 ⊢
    exact cmpL_tr a b c h1 h2
   ·rw [if_neg e2] at h2 ⊢
    exact h2
  ·rw [if_neg e1] at h1
   have p : cmpLab x y < 0 := by omega
   by_cases e2 : cmpLab y z = 0
   ·obtain rfl := cmpLab_eq.1 e2
    rw [if_neg e1]; exact h1
   ·rw [if_neg e2] at h2
    have q := cmpLab3.lt_tr p h2
    rw [if_neg (by omega)]; omega
theorem cmpL3 : Cmp3 cmpL := ⟨fun x y => cmpL_flip x y, cmpL_tr⟩
theorem cmpL_eq : ∀ {a b : List Lab}, cmpL a b = 0 ↔ a = b
 | [], [] => by simp [cmpL]
 | [], _ :: _ => by simp [cmpL]
 | _ :: _, [] => by simp [cmpL]
 | x :: a, y :: b => by
  rw [cmpL]
  by_cases e : cmpLab x y = 0
  ·rw [if_pos e, cmpL_eq]
   obtain rfl := cmpLab_eq.1 e
   simp
  ·rw [if_neg e]
   have : x ≠ y := fun h => e (cmpLab_eq.2 h)
   simp [this, e]
theorem compare_loop (a b : List Lab) (ha : a.length < 4611686018427387904) (hb : b.length < 4611686018427387904) : ∀ (d i : Nat), i + d = a.length → i ≤ b.length → Ev (fun k => r9_Compare.l0 k a b (i : Int)) (cmpL (a.drop i) (b.drop i))
 | 0, i, h, hib => by
  have e1 : a.drop i = [] := List.drop_of_length_le (by omega)
  rw [e1]
  refine Ev.step (f := fun k => r9_Compare.j1 k a b (i : Int) false) (fun k => ?_) ?_
  ·simp only [r9_Compare.l0]
   rw [if_neg (by omega)]
  ·refine Ev.step (f := fun _ => some (cmpL [] (b.drop i))) (fun k => ?_) (Ev.now _)
   simp only [r9_Compare.j1]
   rw [if_neg (by decide)]
   by_cases h2 : (a.length : Int) < (b.length : Int)
   ·rw [if_pos h2]
    have : b.drop i = b[i] :: b.drop (i + 1) := List.drop_eq_getElem_cons (by omega)
    rw [this]; rfl
   ·rw [if_neg h2, if_neg (by omega)]
    have : b.drop i = [] := List.drop_of_length_le (by omega)
    rw [this]; rfl
 | d + 1, i, h, hib => by
  have hi : i < a.length := by omega
  have ea : a.drop i = a[i] :: a.drop (i + 1) := List.drop_eq_getElem_cons hi
  refine Ev.step (f := fun k => r9_Compare.j1 k a b (i : Int) (decide ((i : Int) < (b.length : Int)))) (fun k => ?_) ?_
  ·simp only [r9_Compare.l0]
   rw [if_pos (by omega)]
  by_cases hj : i < b.length
  ·have eb : b.drop i = b[i] :: b.drop (i + 1) := List.drop_eq_getElem_cons hj
   have ih := compare_loop a b ha hb d (i + 1) (by omega) (by omega)
   rw [decide_eq_true (by omega), ea, eb, cmpL]
   have hs : ∀ k, r9_Compare.j1 (k + 1) a b (i : Int) true = if cmpLab a[i] b[i] = 0 then r9_Compare.l0 k a b ((i + 1 : Nat) : Int) else some (cmpLab a[i] b[i]) := by
    intro k
    simp only [r9_Compare.j1]
    rw [if_pos trivial, if_pos (by omega), if_pos (by omega), if_pos (by omega), rdL_at hi, rdL_at hj, order_is, Option.bind_some, order_is, wrap_nat (by omega)]
    unfold cmpLab lexC
    by_cases e0 : cmpS a[i].f0 b[i].f0 = 0
    ·rw [if_pos e0, if_pos e0, Option.bind_some]
    ·rw [if_neg e0, if_neg e0, if_neg e0]
   refine Ev.step hs ?_
   by_cases e : cmpLab a[i] b[i] = 0
   ·rw [if_pos e]
    refine Ev.congr (fun k => ?_) ih
    rw [if_pos e]
   ·rw [if_neg e]
    refine Ev.congr (f := fun _ => some _) (fun k => ?_) (Ev.now _)
    rw [if_neg e]
  ·have eb : b.drop i = [] := List.drop_of_length_le (by omega)
   rw [decide_eq_false (by omega), ea, eb]
   refine Ev.step (f := fun _ => some 1) (fun k => ?_) (Ev.now _)
   simp only [r9_Compare.j1]
   rw [if_neg (by decide), if_neg (by omega), if_pos (by omega)]
theorem compare_ev (a b : List Lab) (ha : a.length < 4611686018427387904) (hb : b.length < 4611686018427387904) : Ev (fun k => r9_Compare.f k a b) (cmpL a b) := by
 have h := compare_loop a b ha hb a.length 0 (by omega) (by omega)
 exact h
def setGo : Option ByteArray → List Lab → Bool
 | _, [] => true
 | none, x :: l => isLab x && setGo (some x.f0) l
 | some q, x :: l => isLab x && (Op.bytesLess q.toList x.f0.toList && setGo (some x.f0) l)
/-- Is a list of labels a set? -/
def isSet (l : List Lab) : Bool := setGo none l && decide (l.length ≤ 16)
def prevOf (l : List Lab) (i : Nat) : Option ByteArray := if i = 0 then none else some (rd_T62 l ((i - 1 : Nat) : Int)).f0
def getL : List Lab → ByteArray → ByteArray
 | [], _ => ⟨#[]⟩
 | x :: l, n => if x.f0.toList = n.toList then x.f1 else getL l n
theorem get_loop (l : List Lab) (hl : l.length < 4611686018427387904) (n : ByteArray) : ∀ (d i : Nat), i + d = l.length → Ev (fun k => r9_Get.l0 k l n (i : Int)) (getL (l.drop i) n)
 | 0, i, h => by
  have e1 : l.drop i = [] := List.drop_of_length_le (by omega)
  rw [e1]
  refine Ev.step (f := fun _ => some _) (fun k => ?_) (Ev.now _)
  simp only [r9_Get.l0]
  rw [if_neg (by omega)]; rfl
 | d + 1, i, h => by
  have hi : i < l.length := by omega
  have el : l.drop i = l[i] :: l.drop (i + 1) := List.drop_eq_getElem_cons hi
  have ih := get_loop l hl n d (i + 1) (by omega)
  rw [el, getL]
  by_cases e : l[i].f0.toList = n.toList
  ·rw [if_pos e]
   refine Ev.step (f := fun _ => some _) (fun k => ?_) (Ev.now _)
   simp only [r9_Get.l0]
   rw [if_pos (by omega), if_pos (by omega), rdL_at hi, if_pos e]
  ·rw [if_neg e]
   refine Ev.step (fun k => ?_) ih
   simp only [r9_Get.l0]
   rw [if_pos (by omega), if_pos (by omega), rdL_at hi, if_neg e, wrap_nat (by omega)]
theorem get_ev (l : List Lab) (hl : l.length < 4611686018427387904) (n : ByteArray) : Ev (fun k => r9_Get.f k l n) (getL l n) := by
 have h := get_loop l hl n l.length 0 (by omega)
 exact h
/-- The document's 'within'. -/
def inR (a b : List Lab) : Bool := a.all fun x => decide ((getL b x.f0).toList = x.f1.toList)
theorem within_loop (a b : List Lab) (ha : a.length < 4611686018427387904) (hb : b.length < 4611686018427387904) : ∀ (d i : Nat), i + d = a.length → Ev (fun k => r10_within.l0 k a b (i : Int)) (inR (a.drop i) b)
 | 0, i, h => by
  have e1 : a.drop i = [] := List.drop_of_length_le (by omega)
  rw [e1]
  refine Ev.step (f := fun _ => some true) (fun k => ?_) (Ev.now _)
  simp only [r10_within.l0]
  rw [if_neg (by omega)]
 | d + 1, i, h => by
  have hi : i < a.length := by omega
  have el : a.drop i = a[i] :: a.drop (i + 1) := List.drop_eq_getElem_cons hi
  have ih := within_loop a b ha hb d (i + 1) (by omega)
  rw [el]
  have e : inR (a[i] :: a.drop (i + 1)) b = (decide ((getL b a[i].f0).toList = a[i].f1.toList) && inR (a.drop (i + 1)) b) := by unfold inR; rw [List.all_cons]
  rw [e]
  refine Ev.step (f := fun k => (r9_Get.f k b a[i].f0).bind fun t486 => (if t486.toList = (a[i].f1).toList then (r10_within.l0 k a b ((i + 1 : Nat) : Int)) else (some false))) (fun k => ?_) ?_
  ·simp only [r10_within.l0]
   rw [if_pos (by omega), if_pos (by omega), rdL_at hi, wrap_nat (by omega)]
  refine Ev.bind (f := fun k t486 => (if t486.toList = (a[i].f1).toList then (r10_within.l0 k a b ((i + 1 : Nat) : Int)) else (some false))) (get_ev b hb a[i].f0) ?_
  by_cases h1 : (getL b a[i].f0).toList = a[i].f1.toList
  ·rw [decide_eq_true h1, Bool.true_and]
   exact Ev.congr (fun k => by rw [if_pos h1]) ih
  ·rw [decide_eq_false h1, Bool.false_and]
   exact Ev.congr (f := fun _ => some false) (fun k => by rw [if_neg h1]) (Ev.now _)
theorem within_ev (a b : List Lab) (ha : a.length < 4611686018427387904) (hb : b.length < 4611686018427387904) : Ev (fun k => r10_within.f k a b) (inR a b) := by
 have h := within_loop a b ha hb a.length 0 (by omega)
 exact h
theorem eqA25 (d : Nat) (w : World) (x0 y0 : Int) (x1 y1 : Int) :
  (Op.equalIn (d + 2) 25 (.agg #[.int .i64 x0, .int .i64 x1]) (.agg #[.int .i64 y0, .int .i64 y1])).run Tryz.prog w = .ok (x0 == y0 && (x1 == y1)) w := by
 refine eqA_of Tryz.underlying25 (by kernel_rfl) ?_
 refine eqf_cons (by rfl) (by go_simp; rfl) (by go_simp; rfl) (by go_simp) ?_
 exact eqf_last (by rfl) (by go_simp; rfl) (by go_simp; rfl) (by go_simp)
theorem eqA62 (d : Nat) (w : World) (x0 y0 : ByteArray) (x1 y1 : ByteArray) :
  (Op.equalIn (d + 2) 62 (.agg #[.string x0, .string x1]) (.agg #[.string y0, .string y1])).run Tryz.prog w = .ok (x0.toList == y0.toList && (x1.toList == y1.toList)) w := by
 refine eqA_of Tryz.underlying62 (by kernel_rfl) ?_
 refine eqf_cons (by rfl) (by go_simp; rfl) (by go_simp; rfl) (by go_simp) ?_
 exact eqf_last (by rfl) (by go_simp; rfl) (by go_simp; rfl) (by go_simp)
attribute [local go_sem high] eqA25 eqA62
def r9_Same.l0 : Nat → List (S62) → List (S62) → Int → Option (Bool)
 | 0, _, _, _ => none
 | k + 1, x0, x1, x5 => if x5 < (x0.length : Int) then (if 0 ≤ x5 then (if x5 < (x1.length : Int) then (if (!((((rd_T62 x0 x5).f0).toList) == (((rd_T62 x1 x5).f0).toList)) || (!((((rd_T62 x0 x5).f1).toList) == (((rd_T62 x1 x5).f1).toList)))) = true then (some false) else (r9_Same.l0 k x0 x1 (wrap64 (x5 + 1)))) else (none)) else (none)) else (some true)
def r9_Same.f (k : Nat) (l0 : List (S62)) (l1 : List (S62)) : Option (Bool) := if (l0.length : Int) = (l1.length : Int) then (r9_Same.l0 k l0 l1 0) else (some false)
theorem r9_Same.calls (k : Nat) (A0 : Option Addr) (c0 : Nat) (l0 : List (S62)) (A1 : Option Addr) (c1 : Nat) (l1 : List (S62)) (r : Bool) (w : World) (hr0 : Kd.C k62 w A0 l0.length l0) (hc0 : l0.length ≤ c0) (hr1 : Kd.C k62 w A1 l1.length l1) (hc1 : l1.length ≤ c1) (h : r9_Same.f k l0 l1 = some r) :
  Calls Tryz.prog 58 #[.slice A0 l0.length c0, .slice A1 l1.length c1] w fun e w' => e = .returned (.bool r) ∧ Drawn0 w w' := by
 have hu62 := Tryz.underlying62
 have HR0 := Sd.mk hr0
 have HC0 := Sd.mk hc0
 clear hr0 hc0
 have HR1 := Sd.mk hr1
 have HC1 := Sd.mk hc1
 clear hr1 hc1
 have H : (if (l0.length : Int) = (l1.length : Int) then (r9_Same.l0 k l0 l1 0) else (some false)) = some r := h
 clear h
 by_cases c3 : (l0.length : Int) = (l1.length : Int)
 ·rw [if_pos c3] at H
  have c3b0 : ((l0.length : Int) == (l1.length : Int)) = true := beq_iff_eq.mpr c3
  have c3b1 : ((l0.length : Int) != (l1.length : Int)) = false := bne_eq_false_iff_eq.mpr c3
  have c3b2 : (l0.length == l1.length) = true := by first | simpa using c3 | (simp at c3 ⊢; omega)
  clear c3
  have H' := Sd.mk H
  clear H
  go_enter Tryz.func58, Tryz.ntmps58
  go_wp2
  repeat (go_quiet (fail); try go_wp2)
  go_loopg [5] k (fun kq v5 w' => ∃ (x5_1 : Int), v5 = .int .i64 x5_1 ∧ Sd (r9_Same.l0 kq l0 l1 x5_1 = some r) ∧ Sd (kq ≤ k) ∧ Drawn0 w w')
  case atStart => exact ⟨(0), ae, H', ⟨Nat.le_refl _⟩, zdr⟩
  case round =>
   clear H'
   obtain ⟨x5_1, rfl, HA, HK1, ⟨m1, rfl⟩⟩ := hrel
   cases gk with
   | zero => exact absurd HA.out (by simp [r9_Same.l0])
   | succ k1 =>
    have H := HA.out
    clear HA
    simp only [r9_Same.l0] at H
    by_cases c4 : x5_1 < (l0.length : Int)
    ·rw [if_pos c4] at H
     have c4b0 : decide (x5_1 < (l0.length : Int)) = true := decide_eq_true c4
     clear c4
     by_cases c5 : 0 ≤ x5_1
     ·rw [if_pos c5] at H
      have c5b0 : decide (0 ≤ x5_1) = true := decide_eq_true c5
      clear c5
      by_cases c6 : x5_1 < (l1.length : Int)
      ·rw [if_pos c6] at H
       have c6b0 : decide (x5_1 < (l1.length : Int)) = true := decide_eq_true c6
       clear c6
       by_cases c7 : (!((((rd_T62 l0 x5_1).f0).toList) == (((rd_T62 l1 x5_1).f0).toList)) || (!((((rd_T62 l0 x5_1).f1).toList) == (((rd_T62 l1 x5_1).f1).toList)))) = true
       ·rw [if_pos c7] at H
        have c7b0 : (!((((rd_T62 l0 x5_1).f0).toList) == (((rd_T62 l1 x5_1).f0).toList)) || (!((((rd_T62 l0 x5_1).f1).toList) == (((rd_T62 l1 x5_1).f1).toList)))) = true := c7
        clear c7
        obtain rfl := zso H
        have p467 : 0 ≤ (x5_1 : Int) := ode
        have q467 : x5_1 < (l0.length : Int) := ode
        obtain ⟨ad467, e467, hx467_0, hx467_1⟩ := at_T62 HR0.out x5_1 p467 q467
        cases e467
        replace p467 := eq_true p467
        replace q467 := eq_true q467
        have p468 : 0 ≤ (x5_1 : Int) := ode
        have q468 : x5_1 < (l1.length : Int) := ode
        obtain ⟨ad468, e468, hx468_0, hx468_1⟩ := at_T62 HR1.out x5_1 p468 q468
        cases e468
        replace p468 := eq_true p468
        replace q468 := eq_true q468
        go_wp2
        repeat (go_quiet (fail); try go_wp2)
        go_ret
        exact ⟨ae, zdr⟩
       ·rw [if_neg c7] at H
        have c7b0 : (!((((rd_T62 l0 x5_1).f0).toList) == (((rd_T62 l1 x5_1).f0).toList)) || (!((((rd_T62 l0 x5_1).f1).toList) == (((rd_T62 l1 x5_1).f1).toList)))) = false := by simpa using c7
        clear c7
        have H' := Sd.mk H
        clear H
        have p467 : 0 ≤ (x5_1 : Int) := ode
        have q467 : x5_1 < (l0.length : Int) := ode
        obtain ⟨ad467, e467, hx467_0, hx467_1⟩ := at_T62 HR0.out x5_1 p467 q467
        cases e467
        replace p467 := eq_true p467
        replace q467 := eq_true q467
        have p468 : 0 ≤ (x5_1 : Int) := ode
        have q468 : x5_1 < (l1.length : Int) := ode
        obtain ⟨ad468, e468, hx468_0, hx468_1⟩ := at_T62 HR1.out x5_1 p468 q468
        cases e468
        replace p468 := eq_true p468
        replace q468 := eq_true q468
        go_wp2
        repeat (go_quiet (fail); try go_wp2)
        go_roundg k1
        case measure => have := HK1.out; omega
        case rel => exact ⟨(wrap64 (x5_1 + 1)), ae, H', ⟨by have := HK1.out; omega⟩, zdr⟩
      ·rw [if_neg c6] at H
       exact absurd H (by simp)
     ·rw [if_neg c5] at H
      exact absurd H (by simp)
    ·rw [if_neg c4] at H
     have c4b0 : decide (x5_1 < (l0.length : Int)) = false := decide_eq_false c4
     clear c4
     obtain rfl := zso H
     go_wp2
     repeat (go_quiet (fail); try go_wp2)
     go_ret
     exact ⟨ae, zdr⟩
 ·rw [if_neg c3] at H
  have c3b0 : ((l0.length : Int) == (l1.length : Int)) = false := beq_eq_false_iff_ne.mpr c3
  have c3b1 : ((l0.length : Int) != (l1.length : Int)) = true := bne_iff_ne.mpr c3
  have c3b2 : (l0.length == l1.length) = false := by first | simpa using c3 | (simp at c3 ⊢; omega)
  obtain rfl := zso H
  go_enter Tryz.func58, Tryz.ntmps58
  go_wp2
  repeat (go_quiet (fail); try go_wp2)
  go_ret
  exact ⟨ae, zdr⟩
def r10_Same.l0 : Nat → List (S37) → List (S37) → Int → Option (Bool)
 | 0, _, _, _ => none
 | k + 1, x0, x1, x5 => if x5 < (x0.length : Int) then (if 0 ≤ x5 then (if x5 < (x1.length : Int) then (if (!(((rd_T37 x0 x5).f1.f0) == ((rd_T37 x1 x5).f1.f0)) || (!(((rd_T37 x0 x5).f1.f1) == ((rd_T37 x1 x5).f1.f1)))) = true then (some false) else ((r9_Same.f k ((rd_T37 x0 x5).f0) ((rd_T37 x1 x5).f0)).bind fun t473 => (if t473 = true then (r10_Same.l0 k x0 x1 (wrap64 (x5 + 1))) else (some false)))) else (none)) else (none)) else (some true)
def r10_Same.f (k : Nat) (l0 : List (S37)) (l1 : List (S37)) : Option (Bool) := if (l0.length : Int) = (l1.length : Int) then (r10_Same.l0 k l0 l1 0) else (some false)
theorem r10_Same.calls (k : Nat) (A0 : Option Addr) (c0 : Nat) (l0 : List (S37)) (A1 : Option Addr) (c1 : Nat) (l1 : List (S37)) (r : Bool) (w : World) (hr0 : Kd.C k37 w A0 l0.length l0) (hc0 : l0.length ≤ c0) (hr1 : Kd.C k37 w A1 l1.length l1) (hc1 : l1.length ≤ c1) (h : r10_Same.f k l0 l1 = some r) :
  Calls Tryz.prog 16 #[.slice A0 l0.length c0, .slice A1 l1.length c1] w fun e w' => e = .returned (.bool r) ∧ Drawn0 w w' := by
 have hu25 := Tryz.underlying25
 have HR0 := Sd.mk hr0
 have HC0 := Sd.mk hc0
 clear hr0 hc0
 have HR1 := Sd.mk hr1
 have HC1 := Sd.mk hc1
 clear hr1 hc1
 have H : (if (l0.length : Int) = (l1.length : Int) then (r10_Same.l0 k l0 l1 0) else (some false)) = some r := h
 clear h
 by_cases c3 : (l0.length : Int) = (l1.length : Int)
 ·rw [if_pos c3] at H
  have c3b0 : ((l0.length : Int) == (l1.length : Int)) = true := beq_iff_eq.mpr c3
  have c3b1 : ((l0.length : Int) != (l1.length : Int)) = false := bne_eq_false_iff_eq.mpr c3
  have c3b2 : (l0.length == l1.length) = true := by first | simpa using c3 | (simp at c3 ⊢; omega)
  clear c3
  have H' := Sd.mk H
  clear H
  go_enter Tryz.func16, Tryz.ntmps16
  go_wp2
  repeat (go_quiet (fail); try go_wp2)
  go_loopg [5] k (fun kq v5 w' => ∃ (x5_1 : Int), v5 = .int .i64 x5_1 ∧ Sd (r10_Same.l0 kq l0 l1 x5_1 = some r) ∧ Sd (kq ≤ k) ∧ Drawn0 w w')
  case atStart => exact ⟨(0), ae, H', ⟨Nat.le_refl _⟩, zdr⟩
  case round =>
   clear H'
   obtain ⟨x5_1, rfl, HA, HK1, ⟨m1, rfl⟩⟩ := hrel
   cases gk with
   | zero => exact absurd HA.out (by simp [r10_Same.l0])
   | succ k1 =>
    have H := HA.out
    clear HA
    simp only [r10_Same.l0] at H
    by_cases c4 : x5_1 < (l0.length : Int)
    ·rw [if_pos c4] at H
     have c4b0 : decide (x5_1 < (l0.length : Int)) = true := decide_eq_true c4
     clear c4
     by_cases c5 : 0 ≤ x5_1
     ·rw [if_pos c5] at H
      have c5b0 : decide (0 ≤ x5_1) = true := decide_eq_true c5
      clear c5
      by_cases c6 : x5_1 < (l1.length : Int)
      ·rw [if_pos c6] at H
       have c6b0 : decide (x5_1 < (l1.length : Int)) = true := decide_eq_true c6
       clear c6
       by_cases c7 : (!(((rd_T37 l0 x5_1).f1.f0) == ((rd_T37 l1 x5_1).f1.f0)) || (!(((rd_T37 l0 x5_1).f1.f1) == ((rd_T37 l1 x5_1).f1.f1)))) = true
       ·rw [if_pos c7] at H
        have c7b0 : (!(((rd_T37 l0 x5_1).f1.f0) == ((rd_T37 l1 x5_1).f1.f0)) || (!(((rd_T37 l0 x5_1).f1.f1) == ((rd_T37 l1 x5_1).f1.f1)))) = true := c7
        clear c7
        obtain rfl := zso H
        have p469 : 0 ≤ (x5_1 : Int) := ode
        have q469 : x5_1 < (l0.length : Int) := ode
        obtain ⟨ad469, A469_0, c469_0, e469, hx469_0, hx469_1, hx469_2, hl469_0, hi469_0⟩ := at_T37 HR0.out x5_1 p469 q469
        cases e469
        have HR469_0 := Sd.mk hi469_0
        have HC469_0 := Sd.mk hl469_0
        clear hi469_0 hl469_0
        replace p469 := eq_true p469
        replace q469 := eq_true q469
        have p470 : 0 ≤ (x5_1 : Int) := ode
        have q470 : x5_1 < (l1.length : Int) := ode
        obtain ⟨ad470, A470_0, c470_0, e470, hx470_0, hx470_1, hx470_2, hl470_0, hi470_0⟩ := at_T37 HR1.out x5_1 p470 q470
        cases e470
        have HR470_0 := Sd.mk hi470_0
        have HC470_0 := Sd.mk hl470_0
        clear hi470_0 hl470_0
        replace p470 := eq_true p470
        replace q470 := eq_true q470
        go_wp2
        repeat (go_quiet (fail); try go_wp2)
        go_ret
        exact ⟨ae, zdr⟩
       ·rw [if_neg c7] at H
        have c7b0 : (!(((rd_T37 l0 x5_1).f1.f0) == ((rd_T37 l1 x5_1).f1.f0)) || (!(((rd_T37 l0 x5_1).f1.f1) == ((rd_T37 l1 x5_1).f1.f1)))) = false := by simpa using c7
        clear c7
        obtain ⟨t473, A8, H⟩ := bnd H
        by_cases c9 : t473 = true
        ·subst c9
         replace H := iT H
         have H' := Sd.mk H
         clear H
         have p469 : 0 ≤ (x5_1 : Int) := ode
         have q469 : x5_1 < (l0.length : Int) := ode
         obtain ⟨ad469, A469_0, c469_0, e469, hx469_0, hx469_1, hx469_2, hl469_0, hi469_0⟩ := at_T37 HR0.out x5_1 p469 q469
         cases e469
         have HR469_0 := Sd.mk hi469_0
         have HC469_0 := Sd.mk hl469_0
         clear hi469_0 hl469_0
         replace p469 := eq_true p469
         replace q469 := eq_true q469
         have p470 : 0 ≤ (x5_1 : Int) := ode
         have q470 : x5_1 < (l1.length : Int) := ode
         obtain ⟨ad470, A470_0, c470_0, e470, hx470_0, hx470_1, hx470_2, hl470_0, hi470_0⟩ := at_T37 HR1.out x5_1 p470 q470
         cases e470
         have HR470_0 := Sd.mk hi470_0
         have HC470_0 := Sd.mk hl470_0
         clear hi470_0 hl470_0
         replace p470 := eq_true p470
         replace q470 := eq_true q470
         have p471 : 0 ≤ (x5_1 : Int) := ode
         have q471 : x5_1 < (l0.length : Int) := ode
         obtain ⟨ad471, A471_0, c471_0, e471, hx471_0, hx471_1, hx471_2, hl471_0, hi471_0⟩ := at_T37 HR0.out x5_1 p471 q471
         obtain rfl : ad469 = ad471 := (by injection e471)
         have HR471_0 := Sd.mk hi471_0
         have HC471_0 := Sd.mk hl471_0
         clear hi471_0 hl471_0
         replace p471 := eq_true p471
         replace q471 := eq_true q471
         have ea_ := Option.some.inj (hx469_0.symm.trans hx471_0)
         injection ea_ with ea_ en_ ec_
         subst ea_
         subst ec_
         clear en_
         have p472 : 0 ≤ (x5_1 : Int) := ode
         have q472 : x5_1 < (l1.length : Int) := ode
         obtain ⟨ad472, A472_0, c472_0, e472, hx472_0, hx472_1, hx472_2, hl472_0, hi472_0⟩ := at_T37 HR1.out x5_1 p472 q472
         obtain rfl : ad470 = ad472 := (by injection e472)
         have HR472_0 := Sd.mk hi472_0
         have HC472_0 := Sd.mk hl472_0
         clear hi472_0 hl472_0
         replace p472 := eq_true p472
         replace q472 := eq_true q472
         have ea_ := Option.some.inj (hx470_0.symm.trans hx472_0)
         injection ea_ with ea_ en_ ec_
         subst ea_
         subst ec_
         clear en_
         go_wp2_with (first | (go_at_call 58; (with_reducible refine (r9_Same.calls k1 _ _ ((rd_T37 l0 x5_1).f0) _ _ ((rd_T37 l1 x5_1).f0) true _ ?side1 ?side2 ?side3 ?side4 A8.out).mono ?_); (case side1 => repeat (first | exact HR471_0.out | (with_reducible refine Kd.C_alloc ?_ _) | (with_reducible refine Kd.C_drewN ?_ _) | (with_reducible refine Kd.C_drew ?_))); (case side2 => exact HC471_0.out); (case side3 => repeat (first | exact HR472_0.out | (with_reducible refine Kd.C_alloc ?_ _) | (with_reducible refine Kd.C_drewN ?_ _) | (with_reducible refine Kd.C_drew ?_))); (case side4 => exact HC472_0.out); rintro e w' ⟨rfl, ⟨nd, rfl⟩⟩; (try first | exact ⟨rfl, _, World.drewN_drewN _ _ _⟩ | exact ⟨rfl, _, Eq.trans (World.drewN_drewN _ _ _) (congrArg (World.drewN _) (Nat.add_assoc _ _ _))⟩)))
         repeat (go_quiet (first | (go_at_call 58; (with_reducible refine (r9_Same.calls k1 _ _ ((rd_T37 l0 x5_1).f0) _ _ ((rd_T37 l1 x5_1).f0) true _ ?side1 ?side2 ?side3 ?side4 A8.out).mono ?_); (case side1 => repeat (first | exact HR471_0.out | (with_reducible refine Kd.C_alloc ?_ _) | (with_reducible refine Kd.C_drewN ?_ _) | (with_reducible refine Kd.C_drew ?_))); (case side2 => exact HC471_0.out); (case side3 => repeat (first | exact HR472_0.out | (with_reducible refine Kd.C_alloc ?_ _) | (with_reducible refine Kd.C_drewN ?_ _) | (with_reducible refine Kd.C_drew ?_))); (case side4 => exact HC472_0.out); rintro e w' ⟨rfl, ⟨nd, rfl⟩⟩; (try first | exact ⟨rfl, _, World.drewN_drewN _ _ _⟩ | exact ⟨rfl, _, Eq.trans (World.drewN_drewN _ _ _) (congrArg (World.drewN _) (Nat.add_assoc _ _ _))⟩))); try go_wp2_with (first | (go_at_call 58; (with_reducible refine (r9_Same.calls k1 _ _ ((rd_T37 l0 x5_1).f0) _ _ ((rd_T37 l1 x5_1).f0) true _ ?side1 ?side2 ?side3 ?side4 A8.out).mono ?_); (case side1 => repeat (first | exact HR471_0.out | (with_reducible refine Kd.C_alloc ?_ _) | (with_reducible refine Kd.C_drewN ?_ _) | (with_reducible refine Kd.C_drew ?_))); (case side2 => exact HC471_0.out); (case side3 => repeat (first | exact HR472_0.out | (with_reducible refine Kd.C_alloc ?_ _) | (with_reducible refine Kd.C_drewN ?_ _) | (with_reducible refine Kd.C_drew ?_))); (case side4 => exact HC472_0.out); rintro e w' ⟨rfl, ⟨nd, rfl⟩⟩; (try first | exact ⟨rfl, _, World.drewN_drewN _ _ _⟩ | exact ⟨rfl, _, Eq.trans (World.drewN_drewN _ _ _) (congrArg (World.drewN _) (Nat.add_assoc _ _ _))⟩))))
         go_roundg k1
         case measure => have := HK1.out; omega
         case rel => exact ⟨(wrap64 (x5_1 + 1)), ae, H', ⟨by have := HK1.out; omega⟩, zdr⟩
        ·replace c9 := znf c9
         subst c9
         replace H := iF H
         obtain rfl := zso H
         have p469 : 0 ≤ (x5_1 : Int) := ode
         have q469 : x5_1 < (l0.length : Int) := ode
         obtain ⟨ad469, A469_0, c469_0, e469, hx469_0, hx469_1, hx469_2, hl469_0, hi469_0⟩ := at_T37 HR0.out x5_1 p469 q469
         cases e469
         have HR469_0 := Sd.mk hi469_0
         have HC469_0 := Sd.mk hl469_0
         clear hi469_0 hl469_0
         replace p469 := eq_true p469
         replace q469 := eq_true q469
         have p470 : 0 ≤ (x5_1 : Int) := ode
         have q470 : x5_1 < (l1.length : Int) := ode
         obtain ⟨ad470, A470_0, c470_0, e470, hx470_0, hx470_1, hx470_2, hl470_0, hi470_0⟩ := at_T37 HR1.out x5_1 p470 q470
         cases e470
         have HR470_0 := Sd.mk hi470_0
         have HC470_0 := Sd.mk hl470_0
         clear hi470_0 hl470_0
         replace p470 := eq_true p470
         replace q470 := eq_true q470
         have p471 : 0 ≤ (x5_1 : Int) := ode
         have q471 : x5_1 < (l0.length : Int) := ode
         obtain ⟨ad471, A471_0, c471_0, e471, hx471_0, hx471_1, hx471_2, hl471_0, hi471_0⟩ := at_T37 HR0.out x5_1 p471 q471
         obtain rfl : ad469 = ad471 := (by injection e471)
         have HR471_0 := Sd.mk hi471_0
         have HC471_0 := Sd.mk hl471_0
         clear hi471_0 hl471_0
         replace p471 := eq_true p471
         replace q471 := eq_true q471
         have ea_ := Option.some.inj (hx469_0.symm.trans hx471_0)
         injection ea_ with ea_ en_ ec_
         subst ea_
         subst ec_
         clear en_
         have p472 : 0 ≤ (x5_1 : Int) := ode
         have q472 : x5_1 < (l1.length : Int) := ode
         obtain ⟨ad472, A472_0, c472_0, e472, hx472_0, hx472_1, hx472_2, hl472_0, hi472_0⟩ := at_T37 HR1.out x5_1 p472 q472
         obtain rfl : ad470 = ad472 := (by injection e472)
         have HR472_0 := Sd.mk hi472_0
         have HC472_0 := Sd.mk hl472_0
         clear hi472_0 hl472_0
         replace p472 := eq_true p472
         replace q472 := eq_true q472
         have ea_ := Option.some.inj (hx470_0.symm.trans hx472_0)
         injection ea_ with ea_ en_ ec_
         subst ea_
         subst ec_
         clear en_
         go_wp2_with (first | (go_at_call 58; (with_reducible refine (r9_Same.calls k1 _ _ ((rd_T37 l0 x5_1).f0) _ _ ((rd_T37 l1 x5_1).f0) false _ ?side1 ?side2 ?side3 ?side4 A8.out).mono ?_); (case side1 => repeat (first | exact HR471_0.out | (with_reducible refine Kd.C_alloc ?_ _) | (with_reducible refine Kd.C_drewN ?_ _) | (with_reducible refine Kd.C_drew ?_))); (case side2 => exact HC471_0.out); (case side3 => repeat (first | exact HR472_0.out | (with_reducible refine Kd.C_alloc ?_ _) | (with_reducible refine Kd.C_drewN ?_ _) | (with_reducible refine Kd.C_drew ?_))); (case side4 => exact HC472_0.out); rintro e w' ⟨rfl, ⟨nd, rfl⟩⟩; (try first | exact ⟨rfl, _, World.drewN_drewN _ _ _⟩ | exact ⟨rfl, _, Eq.trans (World.drewN_drewN _ _ _) (congrArg (World.drewN _) (Nat.add_assoc _ _ _))⟩)))
         repeat (go_quiet (first | (go_at_call 58; (with_reducible refine (r9_Same.calls k1 _ _ ((rd_T37 l0 x5_1).f0) _ _ ((rd_T37 l1 x5_1).f0) false _ ?side1 ?side2 ?side3 ?side4 A8.out).mono ?_); (case side1 => repeat (first | exact HR471_0.out | (with_reducible refine Kd.C_alloc ?_ _) | (with_reducible refine Kd.C_drewN ?_ _) | (with_reducible refine Kd.C_drew ?_))); (case side2 => exact HC471_0.out); (case side3 => repeat (first | exact HR472_0.out | (with_reducible refine Kd.C_alloc ?_ _) | (with_reducible refine Kd.C_drewN ?_ _) | (with_reducible refine Kd.C_drew ?_))); (case side4 => exact HC472_0.out); rintro e w' ⟨rfl, ⟨nd, rfl⟩⟩; (try first | exact ⟨rfl, _, World.drewN_drewN _ _ _⟩ | exact ⟨rfl, _, Eq.trans (World.drewN_drewN _ _ _) (congrArg (World.drewN _) (Nat.add_assoc _ _ _))⟩))); try go_wp2_with (first | (go_at_call 58; (with_reducible refine (r9_Same.calls k1 _ _ ((rd_T37 l0 x5_1).f0) _ _ ((rd_T37 l1 x5_1).f0) false _ ?side1 ?side2 ?side3 ?side4 A8.out).mono ?_); (case side1 => repeat (first | exact HR471_0.out | (with_reducible refine Kd.C_alloc ?_ _) | (with_reducible refine Kd.C_drewN ?_ _) | (with_reducible refine Kd.C_drew ?_))); (case side2 => exact HC471_0.out); (case side3 => repeat (first | exact HR472_0.out | (with_reducible refine Kd.C_alloc ?_ _) | (with_reducible refine Kd.C_drewN ?_ _) | (with_reducible refine Kd.C_drew ?_))); (case side4 => exact HC472_0.out); rintro e w' ⟨rfl, ⟨nd, rfl⟩⟩; (try first | exact ⟨rfl, _, World.drewN_drewN _ _ _⟩ | exact ⟨rfl, _, Eq.trans (World.drewN_drewN _ _ _) (congrArg (World.drewN _) (Nat.add_assoc _ _ _))⟩))))
         go_ret
         exact ⟨ae, zdr⟩
      ·rw [if_neg c6] at H
       exact absurd H (by simp)
     ·rw [if_neg c5] at H
      exact absurd H (by simp)
    ·rw [if_neg c4] at H
     have c4b0 : decide (x5_1 < (l0.length : Int)) = false := decide_eq_false c4
     clear c4
     obtain rfl := zso H
     go_wp2
     repeat (go_quiet (fail); try go_wp2)
     go_ret
     exact ⟨ae, zdr⟩
 ·rw [if_neg c3] at H
  have c3b0 : ((l0.length : Int) == (l1.length : Int)) = false := beq_eq_false_iff_ne.mpr c3
  have c3b1 : ((l0.length : Int) != (l1.length : Int)) = true := bne_iff_ne.mpr c3
  have c3b2 : (l0.length == l1.length) = false := by first | simpa using c3 | (simp at c3 ⊢; omega)
  obtain rfl := zso H
  go_enter Tryz.func16, Tryz.ntmps16
  go_wp2
  repeat (go_quiet (fail); try go_wp2)
  go_ret
  exact ⟨ae, zdr⟩
def l10_own.l0 : Nat → List (S37) → List (S37) → Int → Option ((List (S37)))
 | 0, _, _, _ => none
 | k + 1, x0, x3, x4 => if x4 < (x0.length : Int) then ((some (([] : List (S62)) : List (S62))).bind fun y474 => (if 0 ≤ x4 then (if y474.length + ((rd_T37 x0 x4).f0).length < 4398046511104 then (if x3.length < 3518437208883 then (l10_own.l0 k x0 (x3 ++ [(⟨(y474 ++ ((rd_T37 x0 x4).f0)), (⟨(rd_T37 x0 x4).f1.f0, (rd_T37 x0 x4).f1.f1⟩ : S25)⟩ : S37)]) (wrap64 (x4 + 1))) else (none)) else (none)) else (none))) else (some x3)
def l10_own.f (k : Nat) (l0 : List (S37)) : Option ((List (S37))) := l10_own.l0 k l0 ([] : List (S37)) 0
def l10_own.T5 : Bool × List (List Nat × List Nat) := (true, [([], []), ([], []), ([], []), ([], []), ([2, 3], [2, 3]), ([4], [4]), ([5], [5]), ([1, 6], [1, 6]), ([], []), ([], []), ([8, 9], [8, 9]), ([10], [10]), ([11], [11]), ([7, 12], [7, 12]), ([13], [13]), ([0, 14, 7], [0, 14]), ([15, 15, 0, 1, 2, 3, 4, 5, 6, 7, 8, 9, 10, 11, 12, 13, 14, 15], [0, 15])])
def l10_own.B5 : List Nat := [0, 0, 0, 0, 12, 28, 60, 126, 0, 0, 768, 1792, 3840, 8190, 16382, 32767, 65535]
theorem l10_own.tab5 : rtab .any (opsOf Tryz.f15 5) = l10_own.T5 := by kernel_rfl
theorem l10_own.bits5 : waitsOk l10_own.T5.2 l10_own.B5 = true := by kernel_rfl
theorem l10_own.calls (k : Nat) (A0 : Option Addr) (c0 : Nat) (l0 : List (S37)) (r : List (S37)) (w : World) (hr0 : Kd.C k37 w A0 l0.length l0) (hc0 : l0.length ≤ c0) (h : l10_own.f k l0 = some r) :
  Calls Tryz.prog 15 #[.slice A0 l0.length c0] w fun e w' => ∃ v0_ : Value, e = .returned (v0_) ∧ Kd.S k37 37 w' w.heap.size (fun _ => True) v0_ r ∧ Below w.heap.size w w' := by
 have hu25 := Tryz.underlying25
 have hu37 := Tryz.underlying37
 have HR0 := Sd.mk hr0
 have HC0 := Sd.mk hc0
 clear hr0 hc0
 have HB := zsB w
 have H : (l10_own.l0 k l0 ([] : List (S37)) 0) = some r := h
 clear h
 have H' := Sd.mk H
 clear H
 go_enter Tryz.func15, Tryz.ntmps15
 go_wp2
 go_loopg [3, 4] k (fun kq v3 v4 w' => ∃ (x3_1 : List (S37)) (x4_1 : Int), v4 = .int .i64 x4_1 ∧ Sd (l10_own.l0 kq l0 x3_1 x4_1 = some r) ∧ Sd (kq ≤ k) ∧ Sd (Kd.S k37 37 w' w.heap.size (fun _ => True) v3 x3_1) ∧ Sd (Below w.heap.size w w'))
 case atStart => exact ⟨(([] : List (S37))), (0), ae, H', ⟨Nat.le_refl _⟩, ⟨by first | exact Kd.S_nil _ _ _ _ _ | exact Kd.N_nil _ _ _ _ _ | exact Kd.V_nil _ _ _ _ _ | exact Kd.Q_nil _ _ _ _ _ | exact Kd.R_nil _ _ _ _ _⟩, ⟨bbl⟩⟩
 case round =>
  clear H'
  obtain ⟨x3_1, x4_1, rfl, HA, HK1, HO_3, HB⟩ := hrel
  cases gk with
  | zero => exact absurd HA.out (by simp [l10_own.l0])
  | succ k1 =>
   have H := HA.out
   clear HA
   simp only [l10_own.l0] at H
   by_cases c2 : x4_1 < (l0.length : Int)
   ·rw [if_pos c2] at H
    have c2b0 : decide (x4_1 < (l0.length : Int)) = true := decide_eq_true c2
    clear c2
    obtain ⟨y474, hy474⟩ : ∃ y_ : List (S62), y_ = (([] : List (S62))) := ⟨_, rfl⟩
    replace H : (if 0 ≤ x4_1 then (if y474.length + ((rd_T37 l0 x4_1).f0).length < 4398046511104 then (if x3_1.length < 3518437208883 then (l10_own.l0 k1 l0 (x3_1 ++ [(⟨(y474 ++ ((rd_T37 l0 x4_1).f0)), (⟨(rd_T37 l0 x4_1).f1.f0, (rd_T37 l0 x4_1).f1.f1⟩ : S25)⟩ : S37)]) (wrap64 (x4_1 + 1))) else (none)) else (none)) else (none)) = some r := by first | (rw [hy474]; with_reducible exact H) | (have H2_ := (Option.bind_some _ _).symm.trans H; rw [hy474]; with_reducible exact H2_) | (have H2_ := (Option.bind_some _ _).symm.trans H; with_reducible exact H2_) | with_reducible exact H | (rw [hy474]; exact H) | exact H
    have Ny474 := Sd.mk hy474
    clear hy474
    by_cases c3 : 0 ≤ x4_1
    ·rw [if_pos c3] at H
     have c3b0 : decide (0 ≤ x4_1) = true := decide_eq_true c3
     clear c3
     by_cases c4 : y474.length + ((rd_T37 l0 x4_1).f0).length < 4398046511104
     ·rw [if_pos c4] at H
      have LMc4 := Sd.mk c4
      clear c4
      obtain ⟨y478, hy478⟩ : ∃ y_ : List (S62), y_ = (y474 ++ ((rd_T37 l0 x4_1).f0)) := ⟨_, rfl⟩
      replace H : (if x3_1.length < 3518437208883 then (l10_own.l0 k1 l0 (x3_1 ++ [(⟨y478, (⟨(rd_T37 l0 x4_1).f1.f0, (rd_T37 l0 x4_1).f1.f1⟩ : S25)⟩ : S37)]) (wrap64 (x4_1 + 1))) else (none)) = some r := by first | (rw [hy478]; with_reducible exact H) | (have H2_ := (Option.bind_some _ _).symm.trans H; rw [hy478]; with_reducible exact H2_) | (have H2_ := (Option.bind_some _ _).symm.trans H; with_reducible exact H2_) | with_reducible exact H | (rw [hy478]; exact H) | exact H
      have Ny478 := Sd.mk hy478
      clear hy478
      by_cases c5 : x3_1.length < 3518437208883
      ·rw [if_pos c5] at H
       have LMc5 := Sd.mk c5
       clear c5
       obtain ⟨y482, hy482⟩ : ∃ y_ : List (S37), y_ = (x3_1 ++ [(⟨y478, (⟨(rd_T37 l0 x4_1).f1.f0, (rd_T37 l0 x4_1).f1.f1⟩ : S25)⟩ : S37)]) := ⟨_, rfl⟩
       replace H : (l10_own.l0 k1 l0 y482 (wrap64 (x4_1 + 1))) = some r := by first | (rw [hy482]; with_reducible exact H) | (have H2_ := (Option.bind_some _ _).symm.trans H; rw [hy482]; with_reducible exact H2_) | (have H2_ := (Option.bind_some _ _).symm.trans H; with_reducible exact H2_) | with_reducible exact H | (rw [hy482]; exact H) | exact H
       have Ny482 := Sd.mk hy482
       clear hy482
       have H' := Sd.mk H
       clear H
       try go_wp2
       replace HO_3 := Sd.mk (Kd.S_drew HO_3.out)
       replace HB := Sd.mk (bd1 HB.out)
       have p477 : 0 ≤ (x4_1 : Int) := ode
       have q477 : x4_1 < (l0.length : Int) := ode
       obtain ⟨ad477, A477_0, c477_0, e477, hx477_0, hx477_1, hx477_2, hl477_0, hi477_0⟩ := at_T37 HR0.out x4_1 p477 q477
       have hw477_2 := hx477_2
       have hw477_1 := hx477_1
       have hw477_0 := hx477_0
       cases e477
       replace hx477_0 := hxc HB hx477_0
       replace hx477_1 := hxc HB hx477_1
       replace hx477_2 := hxc HB hx477_2
       have HR477_0 := Sd.mk hi477_0
       have HC477_0 := Sd.mk hl477_0
       clear hi477_0 hl477_0
       replace p477 := eq_true p477
       replace q477 := eq_true q477
       have p481 : 0 ≤ (x4_1 : Int) := ode
       have q481 : x4_1 < (l0.length : Int) := ode
       obtain ⟨ad481, A481_0, c481_0, e481, hx481_0, hx481_1, hx481_2, hl481_0, hi481_0⟩ := at_T37 HR0.out x4_1 p481 q481
       have hw481_2 := hx481_2
       have hw481_1 := hx481_1
       have hw481_0 := hx481_0
       obtain rfl : ad477 = ad481 := (by injection e481)
       replace hx481_0 := hxc HB hx481_0
       replace hx481_1 := hxc HB hx481_1
       replace hx481_2 := hxc HB hx481_2
       have HR481_0 := Sd.mk hi481_0
       have HC481_0 := Sd.mk hl481_0
       clear hi481_0 hl481_0
       replace p481 := eq_true p481
       replace q481 := eq_true q481
       have ea_ := Option.some.inj (hx477_0.symm.trans hx481_0)
       injection ea_ with ea_ en_ ec_
       subst ea_
       subst ec_
       clear en_
       refine start_ (n := 17) (S := fun w' => w'.cell? (ad477.add ((x4_1).toNat * 3)) = some (.slice A477_0 ((rd_T37 l0 x4_1).f0).length c477_0) ∧ w'.cell? ⟨(ad477.add ((x4_1).toNat * 3)).block, (ad477.add ((x4_1).toNat * 3)).off + 1, none⟩ = some (.int .i64 ((rd_T37 l0 x4_1).f1.f0)) ∧ w'.cell? ⟨(ad477.add ((x4_1).toNat * 3)).block, (ad477.add ((x4_1).toNat * 3)).off + 2, none⟩ = some (.int .i64 ((rd_T37 l0 x4_1).f1.f1)) ∧ w'.cell? (ad477.add ((x4_1).toNat * 3)) = some (.slice A477_0 ((rd_T37 l0 x4_1).f0).length c477_0) ∧ w'.cell? ⟨(ad477.add ((x4_1).toNat * 3)).block, (ad477.add ((x4_1).toNat * 3)).off + 1, none⟩ = some (.int .i64 ((rd_T37 l0 x4_1).f1.f0)) ∧ w'.cell? ⟨(ad477.add ((x4_1).toNat * 3)).block, (ad477.add ((x4_1).toNat * 3)).off + 2, none⟩ = some (.int .i64 ((rd_T37 l0 x4_1).f1.f1))) (ds := []) #[false, false, false, false, false, false, false, false, false, false, false, false, false, false, false, false, false] (by kernel_rfl) rfl rfl ⟨((HB.out.cell (World.block_lt_of_cell? w _ hw477_0)).trans hw477_0), ((HB.out.cell (World.block_lt_of_cell? w _ hw477_1)).trans hw477_1), ((HB.out.cell (World.block_lt_of_cell? w _ hw477_2)).trans hw477_2), ((HB.out.cell (World.block_lt_of_cell? w _ hw481_0)).trans hw481_0), ((HB.out.cell (World.block_lt_of_cell? w _ hw481_1)).trans hw481_1), ((HB.out.cell (World.block_lt_of_cell? w _ hw481_2)).trans hw481_2)⟩ (fun hHeld => ?_); refine with_tabW l10_own.tab5 l10_own.bits5 (fun HT_ HW_ => ?_)
       generalize wr.drew = w6 at HO_3 HB HR477_0 HR481_0 hx477_0 hx477_1 hx477_2 hx481_0 hx481_1 hx481_2 hHeld ⊢
       refine pure_ (i := 0) (N := some 11) (v := ?_) (a' := ?_) #[true, false, false, false, false, false, false, false, false, false, false, false, false, false, false, false, false] rfl rfl (any_of HT_.out (by kernel_rfl)) (fun _ _ _ h => h) (Or.inl ⟨by rfl, ?_⟩) ?_ ?_
       rotate_left
       ·intro w'
        go_simp
        with_reducible rfl
       rotate_left
       ·simp only [zpz]
        rfl
       refine pure_ (i := 2) (N := some 13) (v := ?_) (a' := ?_) #[true, false, true, false, false, false, false, false, false, false, false, false, false, false, false, false, false] rfl rfl (any_of HT_.out (by kernel_rfl)) (fun _ _ _ h => h) (Or.inl ⟨by rfl, ?_⟩) ?_ ?_
       rotate_left
       ·intro w'
        go_simp
        with_reducible rfl
       rotate_left
       ·simp only [zpz]
        rfl
       refine pure_ (i := 3) (N := some 14) (v := ?_) (a' := ?_) #[true, false, true, true, false, false, false, false, false, false, false, false, false, false, false, false, false] rfl rfl (any_of HT_.out (by kernel_rfl)) (fun _ _ _ h => h) (Or.inl ⟨by rfl, ?_⟩) ?_ ?_
       rotate_left
       ·intro w'
        go_simp
        with_reducible rfl
       rotate_left
       ·simp only [zpz]
        rfl
       refine pure_ (i := 4) (N := some 15) (v := ?_) (a' := ?_) #[true, false, true, true, true, false, false, false, false, false, false, false, false, false, false, false, false] rfl rfl (any_of HT_.out (by kernel_rfl)) (fun _ _ _ h => h) (Or.inl ⟨by rfl, ?_⟩) ?_ ?_
       rotate_left
       ·intro w'
        go_simp
        with_reducible rfl
       rotate_left
       ·simp only [zpz]
        rfl
       refine pure_ (i := 5) (N := some 16) (v := ?_) (a' := ?_) #[true, false, true, true, true, true, false, false, false, false, false, false, false, false, false, false, false] rfl rfl (any_of HT_.out (by kernel_rfl)) (fun _ _ _ h => h) (Or.inl ⟨by rfl, ?_⟩) ?_ ?_
       rotate_left
       ·intro w'
        go_simp
        with_reducible rfl
       rotate_left
       ·simp only [zpz]
        rfl
       refine pure_ (i := 8) (N := some 19) (v := ?_) (a' := ?_) #[true, false, true, true, true, true, false, false, true, false, false, false, false, false, false, false, false] rfl rfl (any_of HT_.out (by kernel_rfl)) (fun _ _ _ h => h) (Or.inl ⟨by rfl, ?_⟩) ?_ ?_
       rotate_left
       ·intro w'
        go_simp
        with_reducible rfl
       rotate_left
       ·simp only [zpz]
        rfl
       refine pure_ (i := 9) (N := some 20) (v := ?_) (a' := ?_) #[true, false, true, true, true, true, false, false, true, true, false, false, false, false, false, false, false] rfl rfl (any_of HT_.out (by kernel_rfl)) (fun _ _ _ h => h) (Or.inl ⟨by rfl, ?_⟩) ?_ ?_
       rotate_left
       ·intro w'
        go_simp
        with_reducible rfl
       rotate_left
       ·simp only [zpz]
        rfl
       refine pure_ (i := 10) (N := some 21) (v := ?_) (a' := ?_) #[true, false, true, true, true, true, false, false, true, true, true, false, false, false, false, false, false] rfl rfl (any_of HT_.out (by kernel_rfl)) (fun _ _ _ h => h) (Or.inl ⟨by rfl, ?_⟩) ?_ ?_
       rotate_left
       ·intro w'
        go_simp
        with_reducible rfl
       rotate_left
       ·simp only [zpz]
        rfl
       refine pure_ (i := 11) (N := some 22) (v := ?_) (a' := ?_) #[true, false, true, true, true, true, false, false, true, true, true, true, false, false, false, false, false] rfl rfl (any_of HT_.out (by kernel_rfl)) (fun _ _ _ h => h) (Or.inl ⟨by rfl, ?_⟩) ?_ ?_
       rotate_left
       ·intro w'
        go_simp
        with_reducible rfl
       rotate_left
       ·simp only [zpz]
        rfl
       refine take_ (i := 6) (N := some 17) (v := ?_) (a' := ?_) #[true, false, true, true, true, true, true, false, true, true, true, true, false, false, false, false, false] rfl rfl (take_ofW HT_.out HW_.out (by kernel_rfl)) (fun _ _ _ h => h) (Or.inl ⟨by rfl, ?_⟩) hHeld ?_ ?_
       rotate_left
       ·rintro w' ⟨s0, s1, s2, s3, s4, s5⟩
        go_simp
        with_reducible rfl
       rotate_left
       ·simp only [zpz]
        rfl
       refine take_ (i := 12) (N := some 23) (v := ?_) (a' := ?_) #[true, false, true, true, true, true, true, false, true, true, true, true, true, false, false, false, false] rfl rfl (take_ofW HT_.out HW_.out (by kernel_rfl)) (fun _ _ _ h => h) (Or.inl ⟨by rfl, ?_⟩) hHeld ?_ ?_
       rotate_left
       ·rintro w' ⟨s0, s1, s2, s3, s4, s5⟩
        go_simp
        with_reducible rfl
       rotate_left
       ·simp only [zpz]
        rfl
       refine one_ (i := 1) (N := some 12) #[true, true, true, true, true, true, true, false, true, true, true, true, true, false, false, false, false] rfl rfl (one_of HT_.out (by kernel_rfl)) (by decide) (fun K hK => ?_)
       refine Kd.R_lit_step k62 _ 62 ?hg (N := 12) ?hd (xs := ([] : List (S62))) (inner := []) (ok := fun _ => True) (okp := fun _ => True) ?hr ?hp (fun _ hk => hk) trivial (Below.refl _ _) (Nat.le_refl _) (by simp) ?_; (case hd => rfl); (case hg => rfl); (case hr => first | (go_simp; done) | (go_simp; rfl)); (case hp => exact (Reps.none _ _))
       intro v475 w7 ho8 hb hg_ hnew_
       clear hg_ hnew_
       (first | rw [← Ny474.out] at ho8 | (simp only [Int.reduceToNat] at ho8; rw [← Ny474.out] at ho8))
       replace HO_3 := Sd.mk (Kd.S_elder' (by (with_reducible repeat (first | apply Kd.S_alloc | apply Kd.S_drewN | apply Kd.S_drew)); exact HO_3.out) (Kd.R_base ho8) hb)
       have HO476 := Sd.mk (Kd.R_lower ho8 (below_size bbl))
       replace HB := bsq w hb
       clear hb ho8
       refine hK.out _ _ ⟨((HB.out.cell (World.block_lt_of_cell? w _ hw477_0)).trans hw477_0), ((HB.out.cell (World.block_lt_of_cell? w _ hw477_1)).trans hw477_1), ((HB.out.cell (World.block_lt_of_cell? w _ hw477_2)).trans hw477_2), ((HB.out.cell (World.block_lt_of_cell? w _ hw481_0)).trans hw481_0), ((HB.out.cell (World.block_lt_of_cell? w _ hw481_1)).trans hw481_1), ((HB.out.cell (World.block_lt_of_cell? w _ hw481_2)).trans hw481_2)⟩ (fun hHeld => ?_)
       clear hK K
       refine norm_ (a' := ?_) ?_ ?_
       rotate_left
       ·show Act.put _ (some 12) _ = _
        simp only [zpz]
        rfl
       refine one_ (i := 7) (N := some 18) #[true, true, true, true, true, true, true, true, true, true, true, true, true, false, false, false, false] rfl rfl (one_of HT_.out (by kernel_rfl)) (by decide) (fun K hK => ?_)
       refine Kd.R_append_rows_step k62 (w0 := w) w.heap.size (by rfl) (.tmp 12) (.tmp 17) 35 62 (.agg #[(.string ⟨#[]⟩), (.string ⟨#[]⟩)]) 32 rfl Tryz.underlying35 info62 rfl (by decide) (by omega) v475 y474 ((rd_T37 l0 x4_1).f0) _ _ _ (fun _ => True) (fun _ => False) rfl rfl ?aO ?aR (fun _ _ h => h) (fun _ h => h.elim) ?aF ?aB ?aS ?aL ?_
       (case aR => repeat (first | exact (Kd.C_below HR477_0.out HB.out) | (with_reducible refine Kd.C_alloc ?_ _) | (with_reducible refine Kd.C_drewN ?_ _) | (with_reducible refine Kd.C_drew ?_)))
       (case aB => exact bbl)
       (case aF => exact (fun _ _ => trivial))
       (case aO => exact (by (repeat refine dR ?_); exact HO476.out))
       (case aS => exact (below_size bbl))
       (case aL => have := LMc4.out; omega)
       intro v479 w9 ho hb hg hat
       rw [← Ny478.out] at ho
       have n0_ := Sd.mk (Kd.S_after (ok := (fun _ => True)) (by (with_reducible repeat (first | apply Kd.S_alloc | apply Kd.S_drewN | apply Kd.S_drew)); exact HO_3.out) hg hat)
       have n1_ := Sd.mk (hb)
       have n2_ := Sd.mk (ho)
       clear HO_3 HB HO476
       have HO_3 := n0_
       have HB := n1_
       have HO480 := n2_
       clear n0_ n1_ n2_
       clear ho hb hg hat
       obtain ⟨Ao10, co10, eo10⟩ := Kd.R_slice HO480.out
       (first | subst eo10 | (injection eo10 with f1_ f2_ f3_; have f4_ := f1_.symm; have f5_ := f3_.symm; clear f1_ f2_ f3_; subst f4_; subst f5_))
       refine hK.out _ _ ⟨((HB.out.cell (World.block_lt_of_cell? w _ hw477_0)).trans hw477_0), ((HB.out.cell (World.block_lt_of_cell? w _ hw477_1)).trans hw477_1), ((HB.out.cell (World.block_lt_of_cell? w _ hw477_2)).trans hw477_2), ((HB.out.cell (World.block_lt_of_cell? w _ hw481_0)).trans hw481_0), ((HB.out.cell (World.block_lt_of_cell? w _ hw481_1)).trans hw481_1), ((HB.out.cell (World.block_lt_of_cell? w _ hw481_2)).trans hw481_2)⟩ (fun hHeld => ?_)
       clear hK K
       refine norm_ (a' := ?_) ?_ ?_
       rotate_left
       ·show Act.put _ (some 18) _ = _
        simp only [zpz]
        rfl
       refine pure_ (i := 13) (N := some 24) (v := ?_) (a' := ?_) #[true, true, true, true, true, true, true, true, true, true, true, true, true, true, false, false, false] rfl rfl (any_of HT_.out (by kernel_rfl)) (fun _ _ _ h => h) (Or.inl ⟨by rfl, ?_⟩) ?_ ?_
       rotate_left
       ·intro w'
        go_simp
        with_reducible rfl
       rotate_left
       ·simp only [zpz]
        rfl
       refine one_ (i := 14) (N := some 25) #[true, true, true, true, true, true, true, true, true, true, true, true, true, true, true, false, false] rfl rfl (one_of HT_.out (by kernel_rfl)) (by decide) (fun K hK => ?_)
       refine v_ (w1 := ?_) (v := ?_) (by rfl) rfl ?_ ?_
       rotate_left 2
       ·go_simp
        constructor
        ·rfl
        ·rfl
       refine hK.out _ _ ⟨(World.cell?_alloc_lt _ _ _ (World.block_lt_of_cell? _ _ (((HB.out.cell (World.block_lt_of_cell? w _ hw477_0)).trans hw477_0)))).trans (((HB.out.cell (World.block_lt_of_cell? w _ hw477_0)).trans hw477_0)), (World.cell?_alloc_lt _ _ _ (World.block_lt_of_cell? _ _ (((HB.out.cell (World.block_lt_of_cell? w _ hw477_1)).trans hw477_1)))).trans (((HB.out.cell (World.block_lt_of_cell? w _ hw477_1)).trans hw477_1)), (World.cell?_alloc_lt _ _ _ (World.block_lt_of_cell? _ _ (((HB.out.cell (World.block_lt_of_cell? w _ hw477_2)).trans hw477_2)))).trans (((HB.out.cell (World.block_lt_of_cell? w _ hw477_2)).trans hw477_2)), (World.cell?_alloc_lt _ _ _ (World.block_lt_of_cell? _ _ (((HB.out.cell (World.block_lt_of_cell? w _ hw481_0)).trans hw481_0)))).trans (((HB.out.cell (World.block_lt_of_cell? w _ hw481_0)).trans hw481_0)), (World.cell?_alloc_lt _ _ _ (World.block_lt_of_cell? _ _ (((HB.out.cell (World.block_lt_of_cell? w _ hw481_1)).trans hw481_1)))).trans (((HB.out.cell (World.block_lt_of_cell? w _ hw481_1)).trans hw481_1)), (World.cell?_alloc_lt _ _ _ (World.block_lt_of_cell? _ _ (((HB.out.cell (World.block_lt_of_cell? w _ hw481_2)).trans hw481_2)))).trans (((HB.out.cell (World.block_lt_of_cell? w _ hw481_2)).trans hw481_2))⟩ (fun hHeld => ?_)
       clear hK K
       refine norm_ (a' := ?_) ?_ ?_
       rotate_left
       ·show Act.put _ (some 25) _ = _
        simp only [zpz]
        rfl
       refine one_ (i := 15) (N := some 26) #[true, true, true, true, true, true, true, true, true, true, true, true, true, true, true, true, false] rfl rfl (one_of HT_.out (by kernel_rfl)) (by decide) (fun K hK => ?_)
       refine Kd.S_append_step k37 (w0 := w) w.heap.size (by rfl) (.tmp 11) (.tmp 25) 33 37 (.agg #[(.slice none 0 0), (.int .i64 0), (.int .i64 0)]) 40 rfl Tryz.underlying33 info37 rfl (by decide) (by omega) u3 x3_1 (⟨y478, (⟨(rd_T37 l0 x4_1).f1.f0, (rd_T37 l0 x4_1).f1.f1⟩ : S25)⟩ : S37) [.slice Ao10 y478.length co10, .int .i64 ((rd_T37 l0 x4_1).f1.f0), .int .i64 ((rd_T37 l0 x4_1).f1.f1)] (fun _ => True) (fun k_ => some k_ = (.slice Ao10 y478.length co10 : Value).ownBlock) rfl rfl ?aP (fun k_ hk_ => ((Kd.R_mono (ok' := fun k_ => ((fun _ => True)) k_ ∧ some k_ ≠ (u3 : Value).ownBlock) (Kd.R_apart' (HO480.out) (Kd.S_typed HO_3.out) (by decide)) (fun k_ hk => ⟨trivial, hk.2⟩))).1 k_ hk_.symm) ?aF ?aO ?aB ?aS ?aL ?_
       (case aP => exact k37_mkM _ _ _ (⟨y478, (⟨(rd_T37 l0 x4_1).f1.f0, (rd_T37 l0 x4_1).f1.f1⟩ : S25)⟩ : S37) (Kd.R_mono (Kd.R_tight rfl (Kd.R_mono (ok' := fun k_ => ((fun _ => True)) k_ ∧ some k_ ≠ (u3 : Value).ownBlock) (Kd.R_apart' (HO480.out) (Kd.S_typed HO_3.out) (by decide)) (fun k_ hk => ⟨trivial, hk.2⟩))) (fun _ h_ => h_)))
       (case aB => exact bbl)
       (case aF => exact (fun _ _ => trivial))
       (case aO => exact (by (with_reducible repeat (first | apply Kd.S_alloc | apply Kd.S_drewN | apply Kd.S_drew)); exact Kd.S_mono HO_3.out (fun k_ hk => ⟨trivial, fun e_ => hk.2 e_⟩)))
       (case aS => exact (below_size bbl))
       (case aL => have := LMc5.out; omega)
       intro v483 w11 ho hb hg hat
       rw [← Ny482.out] at ho
       have n0_ := Sd.mk (hb)
       have n1_ := Sd.mk (ho)
       clear HB HO_3 HO480
       have HB := n0_
       have HO484 := n1_
       clear n0_ n1_
       clear ho hb hg hat
       refine hK.out _ _ ⟨((HB.out.cell (World.block_lt_of_cell? w _ hw477_0)).trans hw477_0), ((HB.out.cell (World.block_lt_of_cell? w _ hw477_1)).trans hw477_1), ((HB.out.cell (World.block_lt_of_cell? w _ hw477_2)).trans hw477_2), ((HB.out.cell (World.block_lt_of_cell? w _ hw481_0)).trans hw481_0), ((HB.out.cell (World.block_lt_of_cell? w _ hw481_1)).trans hw481_1), ((HB.out.cell (World.block_lt_of_cell? w _ hw481_2)).trans hw481_2)⟩ (fun hHeld => ?_)
       clear hK K
       refine norm_ (a' := ?_) ?_ ?_
       rotate_left
       ·show Act.put _ (some 26) _ = _
        simp only [zpz]
        rfl
       refine pure_ (i := 16) (N := some 3) (v := ?_) (a' := ?_) #[true, true, true, true, true, true, true, true, true, true, true, true, true, true, true, true, true] rfl rfl (any_of HT_.out (by kernel_rfl)) (fun _ _ _ h => h) (Or.inl ⟨by rfl, ?_⟩) ?_ ?_
       rotate_left
       ·intro w'
        go_simp
        with_reducible rfl
       rotate_left
       ·simp only [zpz]
        rfl
       refine done_ (done_of HT_.out (by kernel_rfl)) ?_
       try go_wp2
       go_roundg k1
       case measure => have := HK1.out; omega
       case rel => exact ⟨(y482), (wrap64 (x4_1 + 1)), ae, H', ⟨by have := HK1.out; omega⟩, ⟨by (with_reducible repeat (first | apply Kd.S_alloc | apply Kd.S_drewN | apply Kd.S_drew)); exact HO484.out⟩, ⟨bbl⟩⟩
      ·rw [if_neg c5] at H
       exact absurd H (by simp)
     ·rw [if_neg c4] at H
      exact absurd H (by simp)
    ·rw [if_neg c3] at H
     exact absurd H (by simp)
   ·rw [if_neg c2] at H
    have c2b0 : decide (x4_1 < (l0.length : Int)) = false := decide_eq_false c2
    clear c2
    obtain rfl := zso H
    go_wp2
    go_ret
    exact ⟨_, fe, by (with_reducible repeat (first | apply Kd.S_alloc | apply Kd.S_drewN | apply Kd.S_drew)); exact HO_3.out, bbl⟩
mutual
def l10_small.l0 : Nat → List (S37) → Int → Int → Option (Bool)
 | 0, _, _, _ => none
 | k + 1, x0, x3, x4 => if x4 < (x0.length : Int) then (l10_small.j1 k x0 x3 x4 (decide (x4 ≤ 60))) else (l10_small.j1 k x0 x3 x4 false)
def l10_small.j1 : Nat → List (S37) → Int → Int → Bool → Option (Bool)
 | 0, _, _, _, _ => none
 | k + 1, x0, x3, x4, x13 => if x13 = true then (l10_small.l1 k x0 x3 x4 0) else (if (x0.length : Int) ≤ 60 then (some (decide (x3 ≤ 20000))) else (some false))
def l10_small.l1 : Nat → List (S37) → Int → Int → Int → Option (Bool)
 | 0, _, _, _, _ => none
 | k + 1, x0, x3, x4, x5 => if 0 ≤ x4 then (if x4 < (x0.length : Int) then (if x5 < (((rd_T37 x0 x4).f0).length : Int) then (if x5 < 1000 then (if 0 ≤ x5 then (l10_small.l1 k x0 (wrap64 ((wrap64 ((wrap64 (x3 + 1)) + (((rd_T62 ((rd_T37 x0 x4).f0) x5).f0).size : Int))) + (((rd_T62 ((rd_T37 x0 x4).f0) x5).f1).size : Int))) x4 (wrap64 (x5 + 1))) else (none)) else (l10_small.l0 k x0 x3 (wrap64 (x4 + 1)))) else (l10_small.l0 k x0 x3 (wrap64 (x4 + 1)))) else (none)) else (none)
end
def l10_small.f (k : Nat) (l0 : List (S37)) : Option (Bool) := l10_small.l0 k l0 0 0
theorem l10_small.calls (k : Nat) (A0 : Option Addr) (c0 : Nat) (l0 : List (S37)) (r : Bool) (w : World) (hr0 : Kd.C k37 w A0 l0.length l0) (hc0 : l0.length ≤ c0) (h : l10_small.f k l0 = some r) :
  Calls Tryz.prog 13 #[.slice A0 l0.length c0] w fun e w' => e = .returned (.bool r) ∧ Drawn0 w w' := by
 have HR0 := Sd.mk hr0
 have HC0 := Sd.mk hc0
 clear hr0 hc0
 have H : (l10_small.l0 k l0 0 0) = some r := h
 clear h
 have H' := Sd.mk H
 clear H
 go_enter Tryz.func13, Tryz.ntmps13
 go_wp2
 repeat (go_quiet (fail); try go_wp2)
 go_loopg [3, 4] k (fun kq v3 v4 w' => ∃ (x3_1 : Int) (x4_1 : Int), v3 = .int .i64 x3_1 ∧ v4 = .int .i64 x4_1 ∧ Sd (l10_small.l0 kq l0 x3_1 x4_1 = some r) ∧ Sd (kq ≤ k) ∧ Drawn0 w w')
 case atStart => exact ⟨(0), (0), ae, ae, H', ⟨Nat.le_refl _⟩, zdr⟩
 case round =>
  clear H'
  obtain ⟨x3_1, x4_1, rfl, rfl, HA, HK1, ⟨m1, rfl⟩⟩ := hrel
  cases gk with
  | zero => exact absurd HA.out (by simp [l10_small.l0])
  | succ k1 =>
   have H := HA.out
   clear HA
   simp only [l10_small.l0] at H
   have HC2 := Sd.mk H
   clear H
   go_upto_region 3 with (fail)
   repeat (go_quiet (fail); go_upto_region 3 with (fail))
   go_cut [13] (fun v13 wc => ∃ (kq : Nat) (x13_1 : Bool), v13 = .bool x13_1 ∧ Sd (l10_small.j1 kq l0 x3_1 x4_1 x13_1 = some r) ∧ Sd (kq ≤ k1) ∧ Drawn0 w wc)
   case first =>
    have H := HC2.out
    clear HC2
    by_cases c3 : x4_1 < (l0.length : Int)
    ·rw [if_pos c3] at H
     have c3b0 : decide (x4_1 < (l0.length : Int)) = true := decide_eq_true c3
     clear c3
     (first | rw [c3b0] | (simp only [i64_w, i32_w]; rw [c3b0]) | skip)
     have H' := Sd.mk H
     clear H
     go_wp2
     repeat (go_quiet (fail); try go_wp2)
     go_meet
     case rel => exact ⟨_, (decide (x4_1 ≤ 60)), ae, H', ⟨by have := HK1.out; first | omega | exact Nat.le_refl _⟩, zdr⟩
    ·rw [if_neg c3] at H
     have c3b0 : decide (x4_1 < (l0.length : Int)) = false := decide_eq_false c3
     clear c3
     (first | rw [c3b0] | (simp only [i64_w, i32_w]; rw [c3b0]) | skip)
     have H' := Sd.mk H
     clear H
     go_wp2
     repeat (go_quiet (fail); try go_wp2)
     go_meet
     case rel => exact ⟨_, (false), ae, H', ⟨by have := HK1.out; first | omega | exact Nat.le_refl _⟩, zdr⟩
   case rest =>
    clear HC2
    obtain ⟨kq, x13_1, rfl, HA, HJ1, ⟨mc1, rfl⟩⟩ := hcut
    cases kq with
    | zero => exact absurd HA.out (by simp [l10_small.j1])
    | succ kj1 =>
     have H := HA.out
     clear HA
     simp only [l10_small.j1] at H
     by_cases c4 : x13_1 = true
     ·subst c4
      replace H := iT H
      have H' := Sd.mk H
      clear H
      go_wp2
      repeat (go_quiet (fail); try go_wp2)
      go_loopg [3, 5] kj1 (fun kq v3 v5 w' => ∃ (x3_3 : Int) (x5_3 : Int), v3 = .int .i64 x3_3 ∧ v5 = .int .i64 x5_3 ∧ Sd (l10_small.l1 kq l0 x3_3 x4_1 x5_3 = some r) ∧ Sd (kq ≤ kj1) ∧ Drawn0 w w')
      case atStart => exact ⟨(x3_1), (0), ae, ae, H', ⟨Nat.le_refl _⟩, zdr⟩
      case round =>
       clear H'
       obtain ⟨x3_3, x5_3, rfl, rfl, HA, HK3, ⟨m3, rfl⟩⟩ := hrel
       cases gk with
       | zero => exact absurd HA.out (by simp [l10_small.l1])
       | succ k3 =>
        have H := HA.out
        clear HA
        simp only [l10_small.l1] at H
        by_cases c5 : 0 ≤ x4_1
        ·rw [if_pos c5] at H
         have c5b0 : decide (0 ≤ x4_1) = true := decide_eq_true c5
         clear c5
         by_cases c6 : x4_1 < (l0.length : Int)
         ·rw [if_pos c6] at H
          have c6b0 : decide (x4_1 < (l0.length : Int)) = true := decide_eq_true c6
          clear c6
          by_cases c7 : x5_3 < (((rd_T37 l0 x4_1).f0).length : Int)
          ·rw [if_pos c7] at H
           have c7b0 : decide (x5_3 < (((rd_T37 l0 x4_1).f0).length : Int)) = true := decide_eq_true c7
           clear c7
           by_cases c8 : x5_3 < 1000
           ·rw [if_pos c8] at H
            have c8b0 : decide (x5_3 < 1000) = true := decide_eq_true c8
            clear c8
            by_cases c9 : 0 ≤ x5_3
            ·rw [if_pos c9] at H
             have c9b0 : decide (0 ≤ x5_3) = true := decide_eq_true c9
             clear c9
             have H' := Sd.mk H
             clear H
             have p485 : 0 ≤ (x4_1 : Int) := ode
             have q485 : x4_1 < (l0.length : Int) := ode
             obtain ⟨ad485, A485_0, c485_0, e485, hx485_0, hx485_1, hx485_2, hl485_0, hi485_0⟩ := at_T37 HR0.out x4_1 p485 q485
             cases e485
             have HR485_0 := Sd.mk hi485_0
             have HC485_0 := Sd.mk hl485_0
             clear hi485_0 hl485_0
             replace p485 := eq_true p485
             replace q485 := eq_true q485
             have p486 : 0 ≤ (x4_1 : Int) := ode
             have q486 : x4_1 < (l0.length : Int) := ode
             obtain ⟨ad486, A486_0, c486_0, e486, hx486_0, hx486_1, hx486_2, hl486_0, hi486_0⟩ := at_T37 HR0.out x4_1 p486 q486
             obtain rfl : ad485 = ad486 := (by injection e486)
             have HR486_0 := Sd.mk hi486_0
             have HC486_0 := Sd.mk hl486_0
             clear hi486_0 hl486_0
             replace p486 := eq_true p486
             replace q486 := eq_true q486
             have ea_ := Option.some.inj (hx485_0.symm.trans hx486_0)
             injection ea_ with ea_ en_ ec_
             subst ea_
             subst ec_
             clear en_
             have p487 : 0 ≤ (x5_3 : Int) := ode
             have q487 : x5_3 < (((rd_T37 l0 x4_1).f0).length : Int) := ode
             obtain ⟨ad487, e487, hx487_0, hx487_1⟩ := at_T62 HR486_0.out x5_3 p487 q487
             cases e487
             replace p487 := eq_true p487
             replace q487 := eq_true q487
             have p488 : 0 ≤ (x4_1 : Int) := ode
             have q488 : x4_1 < (l0.length : Int) := ode
             obtain ⟨ad488, A488_0, c488_0, e488, hx488_0, hx488_1, hx488_2, hl488_0, hi488_0⟩ := at_T37 HR0.out x4_1 p488 q488
             obtain rfl : ad485 = ad488 := (by injection e488)
             have HR488_0 := Sd.mk hi488_0
             have HC488_0 := Sd.mk hl488_0
             clear hi488_0 hl488_0
             replace p488 := eq_true p488
             replace q488 := eq_true q488
             have ea_ := Option.some.inj (hx485_0.symm.trans hx488_0)
             injection ea_ with ea_ en_ ec_
             subst ea_
             subst ec_
             clear en_
             have p489 : 0 ≤ (x5_3 : Int) := ode
             have q489 : x5_3 < (((rd_T37 l0 x4_1).f0).length : Int) := ode
             obtain ⟨ad489, e489, hx489_0, hx489_1⟩ := at_T62 HR488_0.out x5_3 p489 q489
             cases e489
             replace p489 := eq_true p489
             replace q489 := eq_true q489
             go_wp2
             repeat (go_quiet (fail); try go_wp2)
             go_roundg k3
             case measure => have := HK1.out; have := HJ1.out; have := HK3.out; omega
             case rel => exact ⟨(wrap64 ((wrap64 ((wrap64 (x3_3 + 1)) + (((rd_T62 ((rd_T37 l0 x4_1).f0) x5_3).f0).size : Int))) + (((rd_T62 ((rd_T37 l0 x4_1).f0) x5_3).f1).size : Int))), (wrap64 (x5_3 + 1)), ae, ae, H', ⟨by have := HK1.out; have := HJ1.out; have := HK3.out; omega⟩, zdr⟩
            ·rw [if_neg c9] at H
             exact absurd H (by simp)
           ·rw [if_neg c8] at H
            have c8b0 : decide (x5_3 < 1000) = false := decide_eq_false c8
            clear c8
            have H' := Sd.mk H
            clear H
            have p485 : 0 ≤ (x4_1 : Int) := ode
            have q485 : x4_1 < (l0.length : Int) := ode
            obtain ⟨ad485, A485_0, c485_0, e485, hx485_0, hx485_1, hx485_2, hl485_0, hi485_0⟩ := at_T37 HR0.out x4_1 p485 q485
            cases e485
            have HR485_0 := Sd.mk hi485_0
            have HC485_0 := Sd.mk hl485_0
            clear hi485_0 hl485_0
            replace p485 := eq_true p485
            replace q485 := eq_true q485
            go_wp2
            repeat (go_quiet (fail); try go_wp2)
            go_roundg k3
            case measure => have := HK1.out; have := HJ1.out; have := HK3.out; omega
            case rel => exact ⟨(x3_3), (wrap64 (x4_1 + 1)), ae, ae, H', ⟨by have := HK1.out; have := HJ1.out; have := HK3.out; omega⟩, zdr⟩
          ·rw [if_neg c7] at H
           have c7b0 : decide (x5_3 < (((rd_T37 l0 x4_1).f0).length : Int)) = false := decide_eq_false c7
           clear c7
           have H' := Sd.mk H
           clear H
           have p485 : 0 ≤ (x4_1 : Int) := ode
           have q485 : x4_1 < (l0.length : Int) := ode
           obtain ⟨ad485, A485_0, c485_0, e485, hx485_0, hx485_1, hx485_2, hl485_0, hi485_0⟩ := at_T37 HR0.out x4_1 p485 q485
           cases e485
           have HR485_0 := Sd.mk hi485_0
           have HC485_0 := Sd.mk hl485_0
           clear hi485_0 hl485_0
           replace p485 := eq_true p485
           replace q485 := eq_true q485
           go_wp2
           repeat (go_quiet (fail); try go_wp2)
           go_roundg k3
           case measure => have := HK1.out; have := HJ1.out; have := HK3.out; omega
           case rel => exact ⟨(x3_3), (wrap64 (x4_1 + 1)), ae, ae, H', ⟨by have := HK1.out; have := HJ1.out; have := HK3.out; omega⟩, zdr⟩
         ·rw [if_neg c6] at H
          exact absurd H (by simp)
        ·rw [if_neg c5] at H
         exact absurd H (by simp)
     ·replace c4 := znf c4
      subst c4
      replace H := iF H
      by_cases c10 : (l0.length : Int) ≤ 60
      ·rw [if_pos c10] at H
       have c10b0 : decide ((l0.length : Int) ≤ 60) = true := decide_eq_true c10
       have c10b1 : decide (l0.length ≤ 60) = true := decide_eq_true (by omega)
       clear c10
       obtain rfl := zso H
       go_wp2
       repeat (go_quiet (fail); try go_wp2)
       go_ret
       exact ⟨ae, zdr⟩
      ·rw [if_neg c10] at H
       have c10b0 : decide ((l0.length : Int) ≤ 60) = false := decide_eq_false c10
       have c10b1 : decide (l0.length ≤ 60) = false := decide_eq_false (by omega)
       clear c10
       obtain rfl := zso H
       go_wp2
       repeat (go_quiet (fail); try go_wp2)
       go_ret
       exact ⟨ae, zdr⟩
abbrev Ser := S37
theorem rdS_at {xs : List Ser} {i : Nat} (h : i < xs.length) : rd_T37 xs (i : Int) = xs[i] := by
 unfold rd_T37
 rw [Int.toNat_natCast, List.getD_eq_getElem?_getD, List.getElem?_eq_getElem h]; rfl
/-- Sizes that a list of series can have. -/
def SersOk (l : List Ser) : Prop := l.length < 3518437208883 ∧ ∀ x ∈ l, x.f0.length < 4398046511104 ∧ LabsOk x.f0
theorem sameL_loop (a : List Lab) (ha : a.length < 4611686018427387904) : ∀ (d i : Nat), i + d = a.length → Ev (fun k => r9_Same.l0 k a a (i : Int)) true
 | 0, i, h => by
  refine Ev.step (f := fun _ => some true) (fun k => ?_) (Ev.now _)
  simp only [r9_Same.l0]
  rw [if_neg (by omega)]
 | d + 1, i, h => by
  refine Ev.step (fun k => ?_) (sameL_loop a ha d (i + 1) (by omega))
  simp only [r9_Same.l0]
  rw [if_pos (by omega), if_pos (by omega), if_pos (by omega), if_neg (by simp), wrap_nat (by omega)]
theorem sameL_ev (a : List Lab) (ha : a.length < 4611686018427387904) : Ev (fun k => r9_Same.f k a a) true := by
 refine Ev.congr (fun k => ?_) (sameL_loop a ha a.length 0 (by omega))
 unfold r9_Same.f
 rw [if_pos rfl]; rfl
theorem sameS_loop (a : List Ser) (ha : SersOk a) : ∀ (d i : Nat), i + d = a.length → Ev (fun k => r10_Same.l0 k a a (i : Int)) true
 | 0, i, h => by
  refine Ev.step (f := fun _ => some true) (fun k => ?_) (Ev.now _)
  simp only [r10_Same.l0]
  rw [if_neg (by omega)]
 | d + 1, i, h => by
  have hi : i < a.length := by omega
  have hm := ha.1
  have hx := (ha.2 _ (List.getElem_mem hi)).1
  refine Ev.step (f := fun k => (r9_Same.f k a[i].f0 a[i].f0).bind fun t541 => (if t541 = true then (r10_Same.l0 k a a ((i + 1 : Nat) : Int)) else (some false))) (fun k => ?_) ?_
  ·simp only [r10_Same.l0]
   rw [if_pos (by omega), if_pos (by omega), if_pos (by omega), if_neg (by simp), wrap_nat (by omega), rdS_at hi]
  refine Ev.bind (f := fun k t541 => (if t541 = true then (r10_Same.l0 k a a ((i + 1 : Nat) : Int)) else (some false))) (sameL_ev a[i].f0 (by omega)) ?_
  exact Ev.congr (fun k => by rw [if_pos rfl]) (sameS_loop a ha d (i + 1) (by omega))
theorem sameS_ev (a : List Ser) (ha : SersOk a) : Ev (fun k => r10_Same.f k a a) true := by
 refine Ev.congr (fun k => ?_) (sameS_loop a ha a.length 0 (by omega))
 unfold r10_Same.f
 rw [if_pos rfl]; rfl
theorem own_loop (a : List Ser) (ha : SersOk a) : ∀ (d i : Nat), i + d = a.length → Ev (fun k => l10_own.l0 k a (a.take i) (i : Int)) a
 | 0, i, h => by
  refine Ev.step (f := fun _ => some a) (fun k => ?_) (Ev.now _)
  simp only [l10_own.l0]
  rw [if_neg (by omega), List.take_of_length_le (by omega)]
 | d + 1, i, h => by
  have hi : i < a.length := by omega
  have hm := ha.1
  have hx := (ha.2 _ (List.getElem_mem hi)).1
  have ht : (a.take i).length < 3518437208883 := by rw [List.length_take]; omega
  have e : a.take i ++ [a[i]] = a.take (i + 1) := by rw [List.take_add_one, List.getElem?_eq_getElem hi]; rfl
  refine Ev.step (fun k => ?_) (own_loop a ha d (i + 1) (by omega))
  simp only [l10_own.l0]
  rw [if_pos (by omega), Option.bind_some, if_pos (by omega), rdS_at hi, if_pos (by simpa using hx), if_pos ht, wrap_nat (by omega), ← e]
  rfl
theorem own_ev (a : List Ser) (ha : SersOk a) : Ev (fun k => l10_own.f k a) a := by
 have h := own_loop a ha a.length 0 (by omega)
 exact h
def SmallAns (a : List Ser) (g : Nat → Option Bool) : Prop := ∃ r, Ev g r ∧ (r = true → a.length ≤ 60)
theorem small_end (a : List Ser) (n x : Int) : SmallAns a (fun k => l10_small.j1 k a n x false) := by
 by_cases h : (a.length : Int) ≤ 60
 ·refine ⟨decide (n ≤ 20000), Ev.step (f := fun _ => some (decide (n ≤ 20000))) (fun k => ?_) (Ev.now _), fun _ => by omega⟩
  simp only [l10_small.j1]
  rw [if_neg (by decide), if_pos h]
 ·refine ⟨false, Ev.step (f := fun _ => some false) (fun k => ?_) (Ev.now _), fun h => by cases h⟩
  simp only [l10_small.j1]
  rw [if_neg (by decide), if_neg h]
theorem small_inner (a : List Ser) (ha : SersOk a) (i : Nat) (hi : i < a.length) (next : ∀ n : Int, SmallAns a (fun k => l10_small.l0 k a n ((i + 1 : Nat) : Int))) : ∀ (d j : Nat) (n : Int), j + d = a[i].f0.length → SmallAns a (fun k => l10_small.l1 k a n (i : Int) (j : Int)) := by
 have hm := ha.1
 have hx := (ha.2 _ (List.getElem_mem hi)).1
 intro d
 induction d with
 | zero =>
  intro j n h
  obtain ⟨r, hr, hc⟩ := next n
  refine ⟨r, Ev.step (fun k => ?_) hr, hc⟩
  simp only [l10_small.l1]
  rw [if_pos (by omega), if_pos (by omega), rdS_at hi, if_neg (by omega), wrap_nat (by omega)]
 | succ d ih =>
  intro j n h
  by_cases hj : (j : Int) < 1000
  ·obtain ⟨r, hr, hc⟩ := ih (j + 1) (wrap64 ((wrap64 ((wrap64 (n + 1)) + (((rd_T62 (a[i].f0) (j : Int)).f0).size : Int))) + (((rd_T62 (a[i].f0) (j : Int)).f1).size : Int))) (by omega)
   refine ⟨r, Ev.step (fun k => ?_) hr, hc⟩
   simp only [l10_small.l1]
   rw [if_pos (by omega), if_pos (by omega), rdS_at hi, if_pos (by omega), if_pos hj, if_pos (by omega), wrap_nat (show j < 9223372036854775807 by omega)]
  ·obtain ⟨r, hr, hc⟩ := next n
   refine ⟨r, Ev.step (fun k => ?_) hr, hc⟩
   simp only [l10_small.l1]
   rw [if_pos (by omega), if_pos (by omega), rdS_at hi, if_pos (by omega), if_neg hj, wrap_nat (by omega)]
theorem small_loop (a : List Ser) (ha : SersOk a) : ∀ (d i : Nat) (n : Int), i + d = a.length → SmallAns a (fun k => l10_small.l0 k a n (i : Int))
 | 0, i, n, h => by
  obtain ⟨r, hr, hc⟩ := small_end a n (i : Int)
  refine ⟨r, Ev.step (fun k => ?_) hr, hc⟩
  simp only [l10_small.l0]
  rw [if_neg (by omega)]
 | d + 1, i, n, h => by
  have hi : i < a.length := by omega
  by_cases h6 : (i : Int) ≤ 60
  ·obtain ⟨r, hr, hc⟩ := small_inner a ha i hi (fun n => small_loop a ha d (i + 1) n (by omega)) a[i].f0.length 0 n (by omega)
   refine ⟨r, Ev.step (f := fun k => l10_small.j1 k a n (i : Int) true) (fun k => ?_) (Ev.step (fun k => ?_) hr), hc⟩
   ·simp only [l10_small.l0]
    rw [if_pos (by omega), decide_eq_true h6]
   ·simp only [l10_small.j1]
    rw [if_pos trivial]; rfl
  ·obtain ⟨r, hr, hc⟩ := small_end a n (i : Int)
   refine ⟨r, Ev.step (fun k => ?_) hr, hc⟩
   simp only [l10_small.l0]
   rw [if_pos (by omega), decide_eq_false h6]
theorem small_ev (a : List Ser) (ha : SersOk a) : SmallAns a (fun k => l10_small.f k a) := by
 have h := small_loop a ha a.length 0 0 (by omega)
 exact h
end Go.Proofs.YtcmiehddjgfjaaaGreat.A
namespace Go.Proofs.YtcmiehddjgfjaaaGreat.A.ColS
open Go Go.RowKit Go.Shelf Go.Maps Go.Proofs.YtcmiehddjgfjaaaGreatW.PrintWords Go.Proofs.YtcmiehddjgfjaaaGreatW.PrintLast Go.Proofs.YtcmiehddjgfjaaaGreatW.PrintMore
attribute [local go_sem] Oper.semAt_some
abbrev Rw := (Option Addr × Nat × Nat) × Int × Int
def cl (x : Rw) : List Value := [.slice x.1.1 x.1.2.1 x.1.2.2, .int .i64 x.2.1, .int .i64 x.2.2]
def z0 : Rw := ((none, 0, 0), 0, 0)
abbrev encs (x : Rw) : Array Value := #[.agg #[.slice x.1.1 x.1.2.1 x.1.2.2, .int .i64 x.2.1, .int .i64 x.2.2]]
/-- What has come when k rounds are over. -/
def upto {α : Type} (f : Nat → α) (k : Nat) : List α := (List.range k).map f
theorem upto_succ {α : Type} (f : Nat → α) (k : Nat) : upto f (k + 1) = upto f k ++ [f k] := by simp [upto, List.range_succ]
theorem upto_length {α : Type} (f : Nat → α) (k : Nat) : (upto f k).length = k := by simp [upto]
theorem upto_all (zs : List Rw) : upto (fun j => zs[j]?.getD z0) zs.length = zs := by
 apply List.ext_getElem
 ·simp [upto]
 ·intro i h1 h2
  simp [upto, h2]
/-- Row A holds zs. -/
def Holds (W : World) (ad : Addr) (zs : List Rw) : Prop := ∀ j, j < zs.length → W.cell? (ad.add (j * 3)) = some (.slice (zs[j]?.getD z0).1.1 (zs[j]?.getD z0).1.2.1 (zs[j]?.getD z0).1.2.2) ∧ W.cell? ⟨(ad.add (j * 3)).block, (ad.add (j * 3)).off + 1, none⟩ = some (.int .i64 (zs[j]?.getD z0).2.1) ∧ W.cell? ⟨(ad.add (j * 3)).block, (ad.add (j * 3)).off + 2, none⟩ = some (.int .i64 (zs[j]?.getD z0).2.2)
theorem values1_in (F : Fence) (n : Nat) (h7 : F.fn 90) (hro : F.round = none) (hn : 1 ≤ n) (l Bs n₀ : Nat) (ad : Addr) (cap : Nat) (zs : List Rw) (hreach : zs.length * 40 ≤ 140737488355328) (hb : ad.block < n₀) (J Jx : List Rw → World → Prop) (B : Nat) (hJa : AbidesFrom B J)
  (hY : ∀ pre x W, J pre W → pre.length < zs.length → YieldAt F (n - 1) Tryz.prog l (encs x) W fun e W' =>
   (e = .returned (.bool true) ∧ J (pre ++ [x]) W' ∧ Below n₀ W W') ∨ (e = .returned (.bool false) ∧ Jx (pre ++ [x]) W'))
  (W : World) (hBs : W.cell? ⟨Bs, 0, none⟩ = some (.slice (some ad) zs.length cap)) (hc : Holds W ad zs) (hBn : n₀ ≤ W.heap.size) (h0 : J [] W) :
  CallsIn F n Tryz.prog 90 #[.func (.yield l) #[] #[], .pointer (some ⟨Bs, 0, none⟩)] W fun e W' => (∃ v, e = .returned v) ∧
   ((∃ ys, ys = upto (fun j => zs[j]?.getD z0) zs.length ∧ J ys W') ∨ (∃ pre, (∃ k, k ≤ zs.length ∧ pre = upto (fun j => zs[j]?.getD z0) k) ∧ Jx pre W')) := by
 refine callsIn_of_wp Tryz.func90 rfl h7 ?_ hro
 simp only [Tryz.ntmps90, List.size_toArray, List.length_cons, List.length_nil, Nat.reduceAdd, Nat.reduceSub, Array.replicate_succ, Array.replicate_zero, List.push_toArray, List.append_toArray, List.nil_append, List.cons_append]
 gi_wp2
 gi_loopw [7] (fun i wr => ∃ k : Nat, k ≤ zs.length ∧ i = .int .i64 k ∧ J (upto (fun j => zs[j]?.getD z0) k) wr ∧ Below n₀ W wr)
  (fun i _ => zs.length - (intOf i).toNat)
 case atStart => exact ⟨0, Nat.zero_le _, rfl, h0, Below.refl _ _⟩
 case round =>
  obtain ⟨k, hk, rfl, hJs, hnx⟩ := hrel
  by_cases hlt : k < zs.length
  ·obtain ⟨c0, c1, c2⟩ := hc k hlt
   have q0 := (hnx.cell (p := ad.add (k * 3)) (by rw [add_block]; exact hb)).trans c0
   have q1 := (hnx.cell (p := ⟨(ad.add (k * 3)).block, (ad.add (k * 3)).off + 1, none⟩) (by show (ad.add (k * 3)).block < n₀; rw [add_block]; exact hb)).trans c1
   have q2 := (hnx.cell (p := ⟨(ad.add (k * 3)).block, (ad.add (k * 3)).off + 2, none⟩) (by show (ad.add (k * 3)).block < n₀; rw [add_block]; exact hb)).trans c2
   clear c0 c1 c2
   obtain ⟨x, hx⟩ : ∃ x, zs[k]?.getD z0 = x := ⟨_, rfl⟩
   rw [hx] at q0 q1 q2
   obtain ⟨⟨A0, n0, k0⟩, y1, y2⟩ := x
   simp only at q0 q1 q2
   have hJw : J (upto (fun j => zs[j]?.getD z0) k) (wr.alloc (.cells #[.slice A0 n0 k0, .int .i64 y1, .int .i64 y2] 37)) := hJa _ _ _ _ hJs (World.grownBy_alloc wr _ none) (fun r e => by cases e)
   obtain ⟨fn, tmps, assign, body, hy, hR⟩ := hY _ ((A0, n0, k0), y1, y2) _ hJw (by rw [upto_length]; exact hlt)
   have HX := Sd.mk hx
   clear hx
   gi_wp2
   refine hR.mono ?_
   rintro e W3 (⟨rfl, hJ3, hk3⟩ | ⟨rfl, hJx3⟩)
   ·gi_wp2
    go_roundw
    case rel => exact ⟨k + 1, by omega, by simp, by rw [upto_succ, HX.out]; exact hJ3, (hnx.alloc (by have := hnx.size; omega) _).trans hk3⟩
    case measure => simp [intOf]; omega
   ·gi_wp2
    refine bodyPost_ret (results_none rfl _ _ _) rfl ?_
    exact ⟨⟨_, rfl⟩, .inr ⟨_, ⟨k + 1, by omega, by rw [upto_succ, HX.out]⟩, hJx3⟩⟩
  ·obtain rfl : k = zs.length := by omega
   gi_wp2
   go_end0
   exact ⟨⟨_, rfl⟩, .inl ⟨_, rfl, hJs⟩⟩
theorem upto_take (zs : List Rw) {k : Nat} (hk : k ≤ zs.length) : upto (fun j => zs[j]?.getD z0) k = zs.take k := by
 apply List.ext_getElem
 ·simp [upto, hk]
 ·intro i h1 h2
  have : i < zs.length := by simp [upto] at h1; omega
  simp [upto, this]
/-- .. at no element: no round. -/
theorem values1_nil_in (F : Fence) (n : Nat) (h7 : F.fn 90) (hro : F.round = none) (l Bs : Nat) (A : Option Addr) (c : Nat) (J : List Rw → World → Prop) (W : World) (hBs : W.cell? ⟨Bs, 0, none⟩ = some (.slice A 0 c)) (h0 : J [] W) :
  CallsIn F n Tryz.prog 90 #[.func (.yield l) #[] #[], .pointer (some ⟨Bs, 0, none⟩)] W fun e W' => (∃ v, e = .returned v) ∧ J [] W' := by
 refine callsIn_of_wp Tryz.func90 rfl h7 ?_ hro
 simp only [Tryz.ntmps90, List.size_toArray, List.length_cons, List.length_nil, Nat.reduceAdd, Nat.reduceSub, Array.replicate_succ, Array.replicate_zero, List.push_toArray, List.append_toArray, List.nil_append, List.cons_append]
 gi_wp2
 gi_loopw [7] (fun i wr => i = .int .i64 0 ∧ J [] wr) (fun _ _ => 0)
 case atStart => exact ⟨rfl, h0⟩
 case round =>
  obtain ⟨rfl, hJs⟩ := hrel
  gi_wp2
  go_end0
  exact ⟨⟨_, rfl⟩, hJs⟩
/-- slices.Values: the slice value is boxed; the function value captures the box. -/
theorem values_in (F : Fence) (n : Nat) (h5 : F.fn 55) (hro : F.round = none) (a : Option Addr) (len cap : Nat) (w : World) :
  CallsIn F n Tryz.prog 55 #[.slice a len cap] w fun e w' => e = .returned (.func (.func 90) #[] #[.pointer (some ⟨w.heap.size, 0, none⟩)]) ∧ w' = w.alloc (.cells #[.slice a len cap] 33) := by
 refine callsIn_of_wp Tryz.func55 rfl h5 ?_ hro
 simp only [Tryz.ntmps55, List.size_toArray, List.length_cons, List.length_nil, Nat.reduceAdd, Nat.reduceSub, Array.replicate_succ, Array.replicate_zero, List.push_toArray, List.append_toArray, List.nil_append, List.cons_append]
 gi_wp2
 go_ret
 exact ⟨rfl, rfl⟩
/-- A row of cells below n₀ (or none). -/
def Row (n₀ : Nat) (W : World) (A : Option Addr) (zs : List Rw) : Prop := zs = [] ∨ ∃ ad, A = some ad ∧ ad.block < n₀ ∧ Holds W ad zs
theorem Row.below {n₀ : Nat} {X Y : World} (h : Below n₀ X Y) {A : Option Addr} {zs : List Rw} : Row n₀ X A zs → Row n₀ Y A zs
 | .inl e => .inl e
 | .inr ⟨ad, e, hb, hc⟩ => .inr ⟨ad, e, hb, fun j hj => by
  obtain ⟨c0, c1, c2⟩ := hc j hj
  exact ⟨(h.cell (p := ad.add (j * 3)) (by rw [add_block]; exact hb)).trans c0, (h.cell (p := ⟨(ad.add (j * 3)).block, (ad.add (j * 3)).off + 1, none⟩) (by show (ad.add (j * 3)).block < n₀; rw [add_block]; exact hb)).trans c1, (h.cell (p := ⟨(ad.add (j * 3)).block, (ad.add (j * 3)).off + 2, none⟩) (by show (ad.add (j * 3)).block < n₀; rw [add_block]; exact hb)).trans c2⟩⟩
/-- slices.Values hands back a value that gives the row's elements, in order. -/
theorem values_stops (F : Fence) (n : Nat) (h7 : F.fn 90) (hro : F.round = none) (hn : 1 ≤ n) (Bs n₀ : Nat) (A : Option Addr) (cap : Nat) (zs : List Rw) (hreach : zs.length * 40 ≤ 140737488355328) (w : World) (hBs : Bs < w.heap.size) (hn₀ : n₀ ≤ w.heap.size)
  (hc : w.cell? ⟨Bs, 0, none⟩ = some (.slice A zs.length cap)) (hI : Row n₀ w A zs) :
  SeqStopsK F n Tryz.prog 90 #[.pointer (some ⟨Bs, 0, none⟩)] encs (Below n₀) (fun ys => ys = zs) (fun pre => pre <+: zs) zs.length w := fun l J Jx W hW hJa _ hY h0 => by
 have hc' := (hW.cell (p := ⟨Bs, 0, none⟩) hBs).trans hc
 rcases hI.below (hW.mono hn₀) with rfl | ⟨ad, rfl, hb, hcs⟩
 ·exact (values1_nil_in F n h7 hro l Bs A cap J W hc' h0).mono fun e W' ⟨he, hj⟩ => ⟨he, .inl ⟨_, rfl, hj⟩⟩
 ·refine (values1_in F n h7 hro hn l Bs n₀ ad cap zs hreach hb J Jx _ hJa hY W hc' hcs (Nat.le_trans hn₀ hW.size) h0).mono ?_
  rintro e W' ⟨he, ⟨ys, rfl, hj⟩ | ⟨pre, ⟨k, hk, rfl⟩, hj⟩⟩
  ·exact ⟨he, .inl ⟨_, upto_all zs, hj⟩⟩
  ·exact ⟨he, .inr ⟨_, by rw [upto_take zs hk]; exact List.take_prefix _ _, hj⟩⟩
def flat (zs : List Rw) : List Value := zs.flatMap cl
theorem flat_snoc (zs : List Rw) (x : Rw) : flat (zs ++ [x]) = flat zs ++ cl x := by simp [flat]
theorem cells_new (W : World) (x : Rw) (t : TypeId) : ∀ (j : Nat) (u : Value), (cl x)[j]? = some u → (W.alloc (.cells #[.slice x.1.1 x.1.2.1 x.1.2.2, .int .i64 x.2.1, .int .i64 x.2.2] t)).cell? ((⟨W.heap.size, 0, none⟩ : Addr).add j) = some u := by
 intro j u hu
 have h := blk_cell (blk_new W (.cells #[.slice x.1.1 x.1.2.1 x.1.2.2, .int .i64 x.2.1, .int .i64 x.2.2] t)) j
 rw [add_at, Nat.zero_add, h]
 match j, hu with
 | 0, hu => exact hu
 | 1, hu => exact hu
 | 2, hu => exact hu
 | j + 3, hu => simp [cl] at hu
theorem cl_one (x : Rw) : ∀ u ∈ cl x, u.oneCell' = true := by
 intro u hu
 simp only [cl, List.mem_cons, List.not_mem_nil, or_false] at hu
 rcases hu with rfl | rfl | rfl <;> rfl
/-- A loop variable's box. -/
def VBox (W : World) (Bx : Nat) (x : Rw) : Prop := W.heap[Bx]? = some (.cells #[.slice x.1.1 x.1.2.1 x.1.2.2, .int .i64 x.2.1, .int .i64 x.2.2] 37 (0, 0))
theorem appendSeq_in (F : Fence) (n : Nat) (h145 : F.fn 145) (h90 : F.fn 90) (hro : F.round = none) (hn : 2 ≤ n) (Bs : Nat) (A : Option Addr) (cap : Nat) (zs : List Rw) (hreach : zs.length * 40 ≤ 140737488355328) (w : World) (hBs : Bs < w.heap.size)
  (hc : w.cell? ⟨Bs, 0, none⟩ = some (.slice A zs.length cap)) (hI : Row w.heap.size w A zs) :
  CallsIn F n Tryz.prog 145 #[.slice none 0 0, .func (.func 90) #[] #[.pointer (some ⟨Bs, 0, none⟩)]] w fun e W' => ∃ v, e = .returned v ∧ W'.ownsRow w.heap.size 37 3 v zs.length (flat zs) ∧ Below w.heap.size w W' := by
 have h1 : 1 ≤ n := by omega
 obtain ⟨i0, hi, hz0, hz1, hz2⟩ := info_parts info37
 refine callsIn_of_wp_marks Tryz.func145 rfl h145 ?_ hro
 simp only [Tryz.ntmps145, List.size_toArray, List.length_cons, List.length_nil, Nat.reduceAdd, Nat.reduceSub, Array.replicate_succ, Array.replicate_zero, List.push_toArray, List.append_toArray, List.nil_append, List.cons_append]
 gi_wp2
 have bS := Boxed.new w 33 (.slice none 0 0)
 have hB0 : Below w.heap.size w (w.alloc (.cells #[.slice none 0 0] 33)) := (Below.refl _ w).alloc (Nat.le_refl _) _
 refine wpIn_rangeFunc_ownH hro h1 (gf := 90) (lb := #[.pointer (some ⟨Bs, 0, none⟩)]) rfl h90 (enters_of Tryz.func90 (by kernel_rfl) rfl)
  (values_stops F (n - 1) h90 hro (by omega) Bs w.heap.size A cap zs hreach _ (by simp; omega) (by simp) ((hB0.cell (p := ⟨Bs, 0, none⟩) hBs).trans hc) (hI.below hB0)) belowK_t (belowK_b (by simp)) (Below.refl _ _) (fun _ => rfl)
  (fun pre W => (∃ v, Boxed W w.heap.size 33 v ∧ W.ownsRow w.heap.size 37 3 v pre.length (flat pre) ∧ True) ∧ Below w.heap.size w W)
  (fun _ _ _ => False)
  (OwnFrom.and (Own.from (holdsRow_own w.heap.size w.heap.size 33 37 3 (fun pre : List Rw => pre.length) (fun pre => flat pre) (fun _ _ => True)) _) (ownFrom_below (Nat.le_refl _) (by simp)))
  (fun _ _ _ _ _ hs _ _ => hs)
  ⟨⟨_, bS, World.ownsRow_nil _ _ _ _, trivial⟩, hB0⟩
  (fun x a' W => ∃ Bx, w.heap.size < Bx ∧ VBox W Bx x ∧ a' = { tmps := #[.slice none 0 0, .func (.func 90) #[] #[.pointer (some ⟨Bs, 0, none⟩)], .pointer (some ⟨w.heap.size, 0, none⟩), undef, .slice none 0 0, .pointer (some ⟨Bx, 0, none⟩), .func (.func 90) #[] #[.pointer (some ⟨Bs, 0, none⟩)], .agg #[.slice x.1.1 x.1.2.1 x.1.2.2, .int .i64 x.2.1, .int .i64 x.2.2], undef, undef, undef, undef, undef], defers := [] })
  (fun x a' _ W W' row hs hg hr => by
   obtain ⟨Bx, hB, hv, he⟩ := hs
   refine ⟨Bx, hB, (hg.block Bx (Array.getElem?_eq_some_iff.1 hv).1 (fun e => ?_)).trans hv, he⟩
   obtain ⟨_, o, ho, hoc⟩ := hr Bx e.symm
   rw [hv] at ho
   cases ho
   cases hoc) ?assign ?body ?done ?stop
 case assign =>
  rintro l pre x W K ⟨⟨v, hv, hrow, _⟩, hB⟩ hK
  obtain ⟨⟨A0, n0, k0⟩, y1, y2⟩ := x
  gi_wp2
  exact hK _ _ ((KeepsOthers.alloc _ _).from _) ((Below.refl _ W).alloc hB.size _) ⟨⟨v, hv.alloc _, hrow.alloc _, trivial⟩, hB.alloc hB.size _⟩ ⟨W.heap.size, hv.lt, blk_new W _, rfl⟩
 case body =>
  rintro l pre x a' W hl ⟨r, hr⟩ ⟨⟨v, hv, hrow, _⟩, hB⟩ ⟨Bx, hBx, hvx, rfl⟩ hlt
  obtain ⟨⟨A0, n0, k0⟩, y1, y2⟩ := x
  have b0 := (blk_cell hvx 0).trans rfl
  have b1 := (blk_cell hvx 1).trans rfl
  have b2 := (blk_cell hvx 2).trans rfl
  have hvc := hv.cell
  have hvf := hv.frozen
  have hle : w.heap.size ≤ W.heap.size := hB.size
  gi_wp2_with (gi_at_builtin; refine wpListIn_append_own _ rfl _ _ 33 rfl w.heap.size 37 i0 _ 3 40 Tryz.underlying33 hi hz0 hz1 hz2 rfl (by decide) _ _ _ rfl (hrow.alloc _) ⟨W.heap.size, 0, none⟩ 1 1 (cl ((A0, n0, k0), y1, y2)) rfl rfl (cells_new W ((A0, n0, k0), y1, y2) _) (cl_one _) (by unfold maxLen; omega) (by omega) (by simp; omega) ?_; intro v' w1 hown' hgrow _; obtain ⟨g', cap', rfl⟩ := ownsRow_succ hown'; obtain ⟨hv1, hv2, hr2, hk2, hb2⟩ := hv.appended (by decide) hrow hB.size (Nat.le_refl _) hown' hgrow; have hc1 := hv1.cell; have hf1 := hv1.frozen)
  exact ⟨hk2.from _, hb2, ⟨_, hv2, by rw [flat_snoc, List.length_append]; exact hr2⟩, hB.trans hb2⟩
 case done =>
  rintro D ys W hD rfl ⟨⟨v, hv, hrow, _⟩, hB⟩ hK
  have hvc := hv.cell
  gi_wp2
  refine ⟨by simp, .inl ⟨_, _, rfl, run_takeDeferred hK, ?_⟩⟩
  exact ⟨_, results_tmp rfl _ _ _, v, rfl, ownsRow_putObj hrow _ hK rfl, hB.trans (belowK_b (w := w) (Nat.le_refl _) W D _ _ (by simp at hD; omega) hK rfl rfl)⟩
 case stop =>
  rintro D c pre W _ _ h _
  exact h.elim
end Go.Proofs.YtcmiehddjgfjaaaGreat.A.ColS
namespace Go.Proofs.YtcmiehddjgfjaaaGreat.St
open Go.Proofs Go.Shelf Go.RowKit Go.Lib Go.Sort
variable {P : Program} {α : Type} [Inhabited α] {enc : α → List Value} {k : Nat} {w0 W : World} {blk off : Nat} {dk : Array α}
theorem aside {p : Prop} (h : p) : Aside p := h
/-- W but for how often was drawn. -/
def undrawn (W : World) (n : Nat) : World := { W with drawn := n }
/-- W is a world of the sort's, but for how often was drawn. -/
def SB (enc : α → List Value) (k : Nat) (w0 : World) (blk off : Nat) (dk : Array α) (W : World) : Prop := ∃ n, SWK enc k w0 blk off dk (undrawn W n)
theorem SB.start (h : HoldsK enc k w0 blk off dk) : SB enc k w0 blk off dk w0 := ⟨w0.drawn, SWK.start h⟩
theorem SB.drewN (h : SB enc k w0 blk off dk W) (q : Nat) : SB enc k w0 blk off dk (W.drewN q) := by
 obtain ⟨n, h⟩ := h
 exact ⟨n, h⟩
theorem SB.drew (h : SB enc k w0 blk off dk W) : SB enc k w0 blk off dk W.drew := h.drewN 1
theorem grow_of_below {w w' : World} (h : Below w.heap.size w w') (n : Nat) : undrawn w' n = grow (undrawn w n) (w'.heap.extract w.heap.size w'.heap.size) := by
 have e : w'.heap = w.heap ++ w'.heap.extract w.heap.size w'.heap.size := by
  apply Array.ext_getElem?
  intro i
  by_cases hi : i < w.heap.size
  ·rw [h.block i hi, Array.getElem?_append_left hi]
  ·rw [Array.getElem?_append_right (by omega), Array.getElem?_extract]
   by_cases h2 : i < w'.heap.size
   ·rw [if_pos (by omega)]; congr 1; omega
   ·rw [if_neg (by omega), Array.getElem?_eq_none (by omega)]
 have h1 := h.os; have h2 := h.tape; have h3 := h.output
 unfold undrawn grow
 cases w; cases w'
 simp only at h1 h2 h3 e ⊢
 subst h1; subst h2; subst h3
 rw [← e]
theorem SB.below {w' : World} (h : SB enc k w0 blk off dk W) (hb : Below W.heap.size W w') : SB enc k w0 blk off dk w' := by
 obtain ⟨n, m, os, h⟩ := h
 refine ⟨n, m, os ++ w'.heap.extract W.heap.size w'.heap.size, ?_⟩
 rw [grow_of_below hb n, h]
 unfold sortWorldK
 rw [grow_grow]
theorem undrawn_setCells (b n : Nat) : ∀ (vs : List Value) (o : Nat) (W : World), undrawn (W.setCells b o vs) n = (undrawn W n).setCells b o vs
 | [], o, W => rfl
 | v :: vs, o, W => by rw [World.setCells, World.setCells, undrawn_setCells b n vs]; rfl
variable {d0 : Array α}
theorem SB.holds (h : SB enc k w0 blk off dk W) (R : RowK enc k w0 blk off d0) (hs : dk.size = d0.size) : HoldsK enc k W blk off dk := by
 obtain ⟨n, h⟩ := h
 exact h.holds R.hblk R.hH hs
theorem SB.load (h : SB enc k w0 blk off dk W) (R : RowK enc k w0 blk off d0) (hs : dk.size = d0.size) (P : Program) (i : Nat) (hi : i < dk.size) :
  Sem.run P (loadCellsFrom ⟨blk, off + i * k, none⟩ 0 k #[]) W = .ok (enc dk[i]!).toArray W :=
 run_loadCellsFrom_list P _ _ _ k (R.hk _) (HoldsK.cells (h.holds R hs) R.hk hi)
theorem SB.ld1 (h : SB enc k w0 blk off dk W) (R : RowK enc k w0 blk off d0) (hs : dk.size = d0.size) (P : Program) (i : Nat) (hi : i < dk.size) :
  Sem.run P (loadCellsFrom ⟨blk, off + i * k, none⟩ 0 k #[]) W.drew = .ok (enc dk[i]!).toArray W.drew := h.drew.load R hs P i hi
theorem SB.st1 (h : SB enc k w0 blk off dk W) (R : RowK enc k w0 blk off d0) (hs : dk.size = d0.size) (P : Program) (i : Nat) (hi : i < dk.size) (y : α) :
  Sem.run P (storeCells ⟨blk, off + i * k, none⟩ (enc y) 0) W.drew = .ok () (W.drew.setCells blk (off + i * k) (enc y)) :=
 stores_of_holds P (h.drew.holds R hs) (i * k) _ (by rw [R.hk, size_flatK]; exact rowK_bnd dk k i hi) (R.h1 _)
theorem SB.st2 (h : SB enc k w0 blk off dk W) (R : RowK enc k w0 blk off d0) (hs : dk.size = d0.size) (P : Program) (i j : Nat) (hi : i < dk.size) (hj : j < dk.size) (y x : α) :
  Sem.run P (storeCells ⟨blk, off + j * k, none⟩ (enc x) 0) (W.drew.setCells blk (off + i * k) (enc y)) = .ok () ((W.drew.setCells blk (off + i * k) (enc y)).setCells blk (off + j * k) (enc x)) :=
 stores_of_holds P (holds_setCells_c (h.drew.holds R hs) (i * k) _ (by rw [R.hk, size_flatK]; exact rowK_bnd dk k i hi)) (j * k) _ (by rw [R.hk, size_setMany, size_flatK]; exact rowK_bnd dk k j hj) (R.h1 _)
theorem SB.swapped (h : SB enc k w0 blk off dk W) (R : RowK enc k w0 blk off d0) (i j : Nat) (hi : i < dk.size) (hj : j < dk.size) :
  SB enc k w0 blk off (swp dk i j) ((W.drew.setCells blk (off + i * k) (enc dk[j]!)).setCells blk (off + j * k) (enc dk[i]!)) := by
 obtain ⟨n, h⟩ := h
 refine ⟨n, ?_⟩
 rw [undrawn_setCells, undrawn_setCells]
 exact h.swap R.hk R.hblk i j hi hj
/-- A world of the class, under one name (for the class of worlds of a region that only reads and calls). -/
structure SBW (enc : α → List Value) (k : Nat) (w0 : World) (blk off : Nat) (dk : Array α) where
 w : World
 h : SB enc k w0 blk off dk w
/-- What the sort is told of 'cmp'. -/
def CmpB (P : Program) (g : Nat) (cb : Array Value) (enc : α → List Value) (k : Nat) (cf : α → α → Int) (blk off size : Nat) (w0 : World) : Prop :=
 ∀ (dk : Array α) (W : World), dk.size = size → SB enc k w0 blk off dk W → ∀ x y : α,
  Calls P g (#[.agg (enc x).toArray, .agg (enc y).toArray] ++ cb) W fun e w' => e = .returned (.int .i64 (cf x y)) ∧ Below W.heap.size W w'
/-- The test's call, met in a world of the class. -/
theorem CmpB.at {g : Nat} {cb : Array Value} {cf : α → α → Int} {size : Nat} (hC : CmpB P g cb enc k cf blk off size w0) (p : SBW enc k w0 blk off dk) (hs : dk.size = size) (x y : α) :
  Calls P g (#[.agg (enc x).toArray, .agg (enc y).toArray] ++ cb) p.w fun e w' => e = .returned (.int .i64 (cf x y)) ∧ ∃ q : SBW enc k w0 blk off dk, w' = q.w :=
 (hC dk p.w hs p.h x y).mono fun _ _ ⟨he, hb⟩ => ⟨he, ⟨_, p.h.below hb⟩, rfl⟩
/-- A region whose operations only read, and whose callees lay blocks at most: one walk, in the order of the text, in whatever world of the class. -/
theorem wp_region_sb {id : Nat} {Q : Exit → Act → World → Prop} {a : Act} {w : World} {l : List Oper} (hS : SB enc k w0 blk off dk w) (hm : P.follows .mixedOrders = true) (hB : Region.lexB .any l.toArray = true)
  (h : wpQuiet P l.toArray (fun w' => ∃ p : SBW enc k w0 blk off dk, w' = p.w) (fun a' => ∀ w', (∃ p : SBW enc k w0 blk off dk, w' = p.w) → Q .normal a' w') l a) : (Code.region id l.toArray true).wp P Q a w :=
 wp_region_quiet (C := fun w' => ∃ p : SBW enc k w0 blk off dk, w' = p.w) hm hB ⟨⟨_, hS.drew⟩, rfl⟩ (by simpa using h)
open Go.Proofs.YtcmiehddjgfjaaaGreat.Stable
section
variable {α : Type} [Inhabited α]
/-- The elements of two ranges, exchanged one by one. -/
def swpR (a b : Nat) : Nat → Nat → Array α → Array α
 | _, 0, d => d
 | i, m + 1, d => swpR a b (i + 1) m (swp d (a + i) (b + i))
theorem get_at (d : Array α) (x y : List α) (a : α) (h : d.toList = x ++ a :: y) : d[x.length]! = a := by
 rw [getElem!_def]
 have : d[x.length]? = some a := by rw [← Array.getElem?_toList, h]; simp
 rw [this]
theorem swp_list (d : Array α) (x y z : List α) (a b : α) (h : d.toList = x ++ a :: (y ++ b :: z)) : (swp d x.length (x.length + 1 + y.length)).toList = x ++ b :: (y ++ a :: z) := by
 have ga := get_at d x _ a h
 have gb : d[x.length + 1 + y.length]! = b := by
  have := get_at d (x ++ a :: y) z b (by rw [h]; simp)
  rw [show (x ++ a :: y).length = x.length + 1 + y.length by simp; omega] at this
  exact this
 unfold swp
 rw [ga, gb]
 rw [Array.toList_setIfInBounds, Array.toList_setIfInBounds, h]
 have e1 : (x ++ a :: (y ++ b :: z)).set x.length b = x ++ b :: (y ++ b :: z) := by
  rw [List.set_append_right _ _ (Nat.le_refl _), Nat.sub_self, List.set_cons_zero]
 have e2 : (x ++ b :: (y ++ b :: z)).set (x.length + 1 + y.length) a = x ++ b :: (y ++ a :: z) := by
  rw [List.set_append_right _ _ (by omega), show x.length + 1 + y.length - x.length = y.length + 1 by omega, List.set_cons_succ, List.set_append_right _ _ (Nat.le_refl _), Nat.sub_self, List.set_cons_zero]
 rw [e1, e2]
theorem swpR_list : ∀ (m i a b : Nat) (d : Array α) (x A y B z : List α), d.toList = x ++ (A ++ (y ++ (B ++ z))) → x.length = a + i → A.length = m → B.length = m → x.length + m + y.length = b + i → (swpR a b i m d).toList = x ++ (B ++ (y ++ (A ++ z)))
 | 0, i, a, b, d, x, A, y, B, z, h, hx, hA, hB, hy => by
  have e1 := List.eq_nil_of_length_eq_zero hA
  have e2 := List.eq_nil_of_length_eq_zero hB
  subst e1; subst e2
  rw [swpR, h]
 | m + 1, i, a, b, d, x, A, y, B, z, h, hx, hA, hB, hy => by
  match A, hA, B, hB with
  | a0 :: A', hA, b0 :: B', hB =>
   have hA' : A'.length = m := by simpa using hA
   have hB' : B'.length = m := by simpa using hB
   have e := swp_list d x (A' ++ y) (B' ++ z) a0 b0 (by rw [h]; simp)
   have e2 : x.length + 1 + (A' ++ y).length = b + i := by rw [List.length_append, hA']; omega
   rw [e2, hx] at e
   rw [swpR, swpR_list m (i + 1) a b (swp d (a + i) (b + i)) (x ++ [b0]) A' (y ++ [a0]) B' z (by rw [e]; simp) (by simp; omega) hA' hB' (by simp; omega)]
   simp
/-- What a round of the turning leaves to be turned. -/
def Left (m : Nat) (t : List α) (i j : Nat) (dk : Array α) : Prop :=
 ∃ p u v q : List α, u.length = i ∧ v.length = j ∧ p.length + i = m ∧ dk.toList = p ++ (u ++ (v ++ q)) ∧ p ++ (v ++ (u ++ q)) = t
theorem left_great {m i j : Nat} {t : List α} {dk : Array α} (h : Left m t i j dk) (hij : j < i) : Left m t (i - j) j (swpR (m - i) m 0 j dk) := by
 obtain ⟨p, u, v, q, hu, hv, hp, hd, ht⟩ := h
 have e : u = u.take j ++ u.drop j := (List.take_append_drop j u).symm
 have l1 : (u.take j).length = j := by rw [List.length_take]; omega
 have l2 : (u.drop j).length = i - j := by rw [List.length_drop]; omega
 generalize u.take j = A at e l1
 generalize u.drop j = B at e l2
 subst e
 have s := swpR_list j 0 (m - i) m dk p A B v q (by rw [hd]; simp) (by omega) l1 hv (by omega)
 exact ⟨p ++ v, B, A, q, l2, l1, by rw [List.length_append]; omega, by rw [s]; simp, by rw [← ht]; simp⟩
theorem left_less {m i j : Nat} {t : List α} {dk : Array α} (h : Left m t i j dk) (hij : i < j) : Left m t i (j - i) (swpR (m - i) (m + j - i) 0 i dk) := by
 obtain ⟨p, u, v, q, hu, hv, hp, hd, ht⟩ := h
 have e : v = v.take (j - i) ++ v.drop (j - i) := (List.take_append_drop (j - i) v).symm
 have l1 : (v.take (j - i)).length = j - i := by rw [List.length_take]; omega
 have l2 : (v.drop (j - i)).length = i := by rw [List.length_drop]; omega
 generalize v.take (j - i) = C at e l1
 generalize v.drop (j - i) = D at e l2
 subst e
 have s := swpR_list i 0 (m - i) (m + j - i) dk p u C D q (by rw [hd]; simp) (by omega) hu l2 (by omega)
 exact ⟨p, D, C, u ++ q, l2, l1, by omega, by rw [s], by rw [← ht]; simp⟩
theorem left_same {m i : Nat} {t : List α} {dk : Array α} (h : Left m t i i dk) : (swpR (m - i) m 0 i dk).toList = t := by
 obtain ⟨p, u, v, q, hu, hv, hp, hd, ht⟩ := h
 have s := swpR_list i 0 (m - i) m dk p u [] v q (by rw [hd]; simp) (by omega) hu hv (by simp; omega)
 rw [s, ← ht]; simp
theorem swpR_size : ∀ (m i a b : Nat) (d : Array α), (swpR a b i m d).size = d.size
 | 0, _, _, _, _ => rfl
 | m + 1, i, a, b, d => by rw [swpR, swpR_size m, size_swp]
/-- 'p' is true up to some place, and false from there on. -/
def Mono (p : Nat → Bool) (lo hi : Nat) : Prop := ∀ q c, lo ≤ q → q ≤ c → c < hi → p c = true → p q = true
/-- What a binary search knows. -/
structure Bin (p : Nat → Bool) (lo hi i j : Nat) : Prop where
 mono : Mono p lo hi
 li : lo ≤ i
 ij : i ≤ j
 jh : j ≤ hi
 yes : ∀ q, lo ≤ q → q < i → p q = true
 no : ∀ q, j ≤ q → q < hi → p q = false
theorem Bin.start {p : Nat → Bool} {lo hi : Nat} (hm : Mono p lo hi) (h : lo ≤ hi) : Bin p lo hi lo hi :=
 ⟨hm, Nat.le_refl _, h, Nat.le_refl _, fun q h1 h2 => by omega, fun q h1 h2 => by omega⟩
theorem Bin.right {p : Nat → Bool} {lo hi i j c : Nat} (b : Bin p lo hi i j) (h1 : i ≤ c) (h2 : c < j) (hp : p c = true) : Bin p lo hi (c + 1) j :=
 ⟨b.mono, by have := b.li; omega, by omega, b.jh, fun q hq hc => b.mono q c hq (by omega) (by have := b.jh; omega) hp, b.no⟩
theorem Bin.left {p : Nat → Bool} {lo hi i j c : Nat} (b : Bin p lo hi i j) (h1 : i ≤ c) (h2 : c < j) (hp : p c = false) : Bin p lo hi i c :=
 ⟨b.mono, b.li, h1, by have := b.jh; omega, b.yes, fun q hq hh => by
  cases h : p q with
  | false => rfl
  | true => rw [b.mono c q (by have := b.li; omega) hq hh h] at hp; cases hp⟩
/-- x at place k is carried to the right, to the place ahead of i. -/
def MvR (T : List α) (i k : Nat) (dk : Array α) : Prop := ∃ (u v r : List α) (x : α), u.length = k ∧ v.length + k + 1 = i ∧ dk.toList = u ++ x :: (v ++ r) ∧ u ++ (v ++ x :: r) = T
theorem MvR.step {T : List α} {i k : Nat} {dk : Array α} (h : MvR T i k dk) (hk : k + 1 < i) : MvR T i (k + 1) (swp dk k (k + 1)) := by
 obtain ⟨u, v, r, x, hu, hv, hd, ht⟩ := h
 match v, hv with
 | [], hv => simp at hv; omega
 | y :: v, hv =>
  have s := swp_list dk u [] (v ++ r) x y (by rw [hd]; simp)
  rw [hu] at s
  exact ⟨u ++ [y], v, r, x, by simp [hu], by simp at hv; omega, by rw [show k + 1 = k + 1 + ([] : List α).length from rfl, s]; simp, by rw [← ht]; simp⟩
theorem MvR.done {T : List α} {i k : Nat} {dk : Array α} (h : MvR T i k dk) (hk : ¬ k + 1 < i) : dk.toList = T := by
 obtain ⟨u, v, r, x, hu, hv, hd, ht⟩ := h
 have : v = [] := List.eq_nil_of_length_eq_zero (by omega)
 subst this
 rw [hd, ← ht]; simp
theorem swp_list' (d : Array α) (x y z : List α) (a b : α) (h : d.toList = x ++ a :: (y ++ b :: z)) : (swp d (x.length + 1 + y.length) x.length).toList = x ++ b :: (y ++ a :: z) := by
 have ga := get_at d x _ a h
 have gb : d[x.length + 1 + y.length]! = b := by
  have := get_at d (x ++ a :: y) z b (by rw [h]; simp)
  rw [show (x ++ a :: y).length = x.length + 1 + y.length by simp; omega] at this
  exact this
 unfold swp
 rw [ga, gb]
 rw [Array.toList_setIfInBounds, Array.toList_setIfInBounds, h]
 have e2 : (x ++ a :: (y ++ b :: z)).set (x.length + 1 + y.length) a = x ++ a :: (y ++ a :: z) := by
  rw [List.set_append_right _ _ (by omega), show x.length + 1 + y.length - x.length = y.length + 1 by omega, List.set_cons_succ, List.set_append_right _ _ (Nat.le_refl _), Nat.sub_self, List.set_cons_zero]
 have e1 : (x ++ a :: (y ++ a :: z)).set x.length b = x ++ b :: (y ++ a :: z) := by
  rw [List.set_append_right _ _ (Nat.le_refl _), Nat.sub_self, List.set_cons_zero]
 rw [e2, e1]
/-- x at place k is carried to the left, to the place i. -/
def MvL (T : List α) (i k : Nat) (dk : Array α) : Prop := ∃ (u v r : List α) (x : α), u.length = i ∧ v.length + i = k ∧ dk.toList = u ++ (v ++ x :: r) ∧ u ++ x :: (v ++ r) = T
theorem MvL.step {T : List α} {i k : Nat} {dk : Array α} (h : MvL T i (k + 1) dk) (hk : i < k + 1) : MvL T i k (swp dk (k + 1) k) := by
 obtain ⟨u, v, r, x, hu, hv, hd, ht⟩ := h
 have hne : v ≠ [] := by intro e; subst e; simp at hv; omega
 have e : v = v.dropLast ++ [v.getLast hne] := (List.dropLast_concat_getLast hne).symm
 have hl : v.dropLast.length + i = k := by rw [List.length_dropLast]; omega
 generalize v.dropLast = v' at e hl
 generalize v.getLast hne = y at e
 subst e
 have s := swp_list' dk (u ++ v') [] r y x (by rw [hd]; simp)
 have e1 : (u ++ v').length = k := by rw [List.length_append]; omega
 rw [e1] at s
 exact ⟨u, v', y :: r, x, hu, hl, by rw [show k + 1 = k + 1 + ([] : List α).length from rfl, s]; simp, by rw [← ht]; simp⟩
theorem MvL.done {T : List α} {i k : Nat} {dk : Array α} (h : MvL T i k dk) (hk : ¬ i < k) : dk.toList = T := by
 obtain ⟨u, v, r, x, hu, hv, hd, ht⟩ := h
 have : v = [] := List.eq_nil_of_length_eq_zero (by omega)
 subst this
 rw [hd, ← ht]; simp
/-- Two sorted neighbours. -/
structure Two (lt : α → α → Bool) (a m b : Nat) (pre U V post : List α) (d : Array α) : Prop where
 list : d.toList = pre ++ (U ++ (V ++ post))
 la : pre.length = a
 lm : U.length + a = m
 lb : V.length + m = b
 su : Sorted lt U
 sv : Sorted lt V
section
variable {lt : α → α → Bool} {a m b : Nat} {pre U V post : List α} {d : Array α}
theorem Ord.irr (h : Stable.Ord lt) (x : α) : lt x x = false := by
 cases e : lt x x with
 | false => rfl
 | true => exact absurd (h.asym x x e) (by rw [e]; simp)
theorem get_list (d : Array α) (l : List α) (h : d.toList = l) (i : Nat) (hi : i < l.length) : d[i]! = l[i] := by
 subst h
 rw [getElem!_pos d i (by simpa using hi)]
 simp
theorem Two.getU (t : Two lt a m b pre U V post d) {q : Nat} (h1 : a ≤ q) (h2 : q < m) : ∃ h : q - a < U.length, d[q]! = U[q - a] := by
 have l1 := t.la; have l2 := t.lm
 have hq : q - a < U.length := by omega
 refine ⟨hq, ?_⟩
 rw [get_list d _ t.list q (by simp; omega), List.getElem_append_right (by omega), List.getElem_append_left (by omega)]
 congr 1; omega
theorem Two.getV (t : Two lt a m b pre U V post d) {q : Nat} (h1 : m ≤ q) (h2 : q < b) : ∃ h : q - m < V.length, d[q]! = V[q - m] := by
 have l1 := t.la; have l2 := t.lm; have l3 := t.lb
 have hq : q - m < V.length := by omega
 refine ⟨hq, ?_⟩
 rw [get_list d _ t.list q (by simp; omega), List.getElem_append_right (by omega), List.getElem_append_right (by omega), List.getElem_append_left (by omega)]
 congr 1; omega
theorem Two.incU (O : Stable.Ord lt) (t : Two lt a m b pre U V post d) {q c : Nat} (h1 : a ≤ q) (h2 : q ≤ c) (h3 : c < m) : lt d[c]! d[q]! = false := by
 obtain ⟨hq, eq⟩ := t.getU h1 (by omega)
 obtain ⟨hc, ec⟩ := t.getU (q := c) (by omega) h3
 rw [eq, ec]
 by_cases e : q = c
 ·subst e; exact Ord.irr O _
 ·exact t.su.getElem (by omega) hc
theorem Two.incV (O : Stable.Ord lt) (t : Two lt a m b pre U V post d) {q c : Nat} (h1 : m ≤ q) (h2 : q ≤ c) (h3 : c < b) : lt d[c]! d[q]! = false := by
 obtain ⟨hq, eq⟩ := t.getV h1 (by omega)
 obtain ⟨hc, ec⟩ := t.getV (q := c) (by omega) h3
 rw [eq, ec]
 by_cases e : q = c
 ·subst e; exact Ord.irr O _
 ·exact t.sv.getElem (by omega) hc
theorem Two.memU (t : Two lt a m b pre U V post d) {s : Nat} (h1 : a ≤ s) (h2 : s ≤ m) {x : α} (hx : x ∈ U.take (s - a)) : ∃ q, a ≤ q ∧ q < s ∧ d[q]! = x := by
 have l2 := t.lm
 obtain ⟨i, hi, rfl⟩ := List.getElem_of_mem hx
 rw [List.length_take] at hi
 obtain ⟨hq, eq⟩ := t.getU (q := a + i) (by omega) (by omega)
 refine ⟨a + i, by omega, by omega, ?_⟩
 rw [eq, List.getElem_take]
 congr 1; omega
theorem Two.memU' (t : Two lt a m b pre U V post d) {s : Nat} (h1 : a ≤ s) (h2 : s ≤ m) {x : α} (hx : x ∈ U.drop (s - a)) : ∃ q, s ≤ q ∧ q < m ∧ d[q]! = x := by
 have l2 := t.lm
 obtain ⟨i, hi, rfl⟩ := List.getElem_of_mem hx
 rw [List.length_drop] at hi
 obtain ⟨hq, eq⟩ := t.getU (q := s + i) (by omega) (by omega)
 refine ⟨s + i, by omega, by omega, ?_⟩
 rw [eq, List.getElem_drop]
 congr 1; omega
theorem Two.memV (t : Two lt a m b pre U V post d) {s : Nat} (h1 : m ≤ s) (h2 : s ≤ b) {x : α} (hx : x ∈ V.take (s - m)) : ∃ q, m ≤ q ∧ q < s ∧ d[q]! = x := by
 have l2 := t.lb
 obtain ⟨i, hi, rfl⟩ := List.getElem_of_mem hx
 rw [List.length_take] at hi
 obtain ⟨hq, eq⟩ := t.getV (q := m + i) (by omega) (by omega)
 refine ⟨m + i, by omega, by omega, ?_⟩
 rw [eq, List.getElem_take]
 congr 1; omega
theorem Two.memV' (t : Two lt a m b pre U V post d) {s : Nat} (h1 : m ≤ s) (h2 : s ≤ b) {x : α} (hx : x ∈ V.drop (s - m)) : ∃ q, s ≤ q ∧ q < b ∧ d[q]! = x := by
 have l2 := t.lb
 obtain ⟨i, hi, rfl⟩ := List.getElem_of_mem hx
 rw [List.length_drop] at hi
 obtain ⟨hq, eq⟩ := t.getV (q := s + i) (by omega) (by omega)
 refine ⟨s + i, by omega, by omega, ?_⟩
 rw [eq, List.getElem_drop]
 congr 1; omega
theorem Ord.lt_of (h : Stable.Ord lt) {x y z : α} (h1 : lt z x = true) (h2 : lt z y = false) : lt y x = true := by
 cases e : lt y x with
 | true => rfl
 | false => rw [h.skip z x y h1 e] at h2; cases h2
theorem Ord.lt_le (h : Stable.Ord lt) {x y z : α} (h1 : lt z x = true) (h2 : lt y x = false) : lt z y = true := h.skip z x y h1 h2
/-- (1) one on the left: the search among the right ones. -/
theorem Two.mono1 (O : Stable.Ord lt) (t : Two lt a m b pre U V post d) : Mono (fun q => lt d[q]! d[a]!) m b := fun q c h1 h2 h3 hp =>
 Ord.lt_of O hp (t.incV O h1 h2 h3)
theorem Two.one_left (O : Stable.Ord lt) (t : Two lt a m b pre U V post d) (h : m = a + 1) {i : Nat} (B : Bin (fun q => lt d[q]! d[a]!) m b i i) : MvR (pre ++ (merge lt U V ++ post)) i a d := by
 have l1 := t.la; have l2 := t.lm; have l3 := t.lb; have b1 := B.li; have b2 := B.jh
 obtain ⟨x, rfl⟩ : ∃ x, U = [x] := List.length_eq_one_iff.1 (by omega)
 obtain ⟨_, ex⟩ := t.getU (q := a) (Nat.le_refl _) (by omega)
 have ex : d[a]! = x := by rw [ex]; simp
 have e := one_merge (lt := lt) (V.take (i - m)) (V.drop (i - m)) x
  (fun y hy => by obtain ⟨q, q1, q2, rfl⟩ := t.memV (by omega) (by omega) hy; have := B.yes q q1 q2; rw [ex] at this; exact this)
  (fun y hy => by obtain ⟨q, q1, q2, rfl⟩ := t.memV' (by omega) (by omega) hy; have := B.no q q1 q2; rw [ex] at this; exact this)
 rw [List.take_append_drop] at e
 refine ⟨pre, V.take (i - m), V.drop (i - m) ++ post, x, l1, by rw [List.length_take]; omega, ?_, by rw [e]; simp⟩
 rw [t.list, ← List.append_assoc (V.take _), List.take_append_drop]; simp
/-- (2) one on the right: the search among the left ones. -/
theorem Two.mono2 (O : Stable.Ord lt) (t : Two lt a m b pre U V post d) : Mono (fun q => !lt d[m]! d[q]!) a m := fun q c h1 h2 h3 hp => by
 have hp : lt d[m]! d[c]! = false := by simpa using hp
 have := O.le_trans (t.incU O h1 h2 h3) hp
 simp [this]
theorem Two.one_right (O : Stable.Ord lt) (t : Two lt a m b pre U V post d) (h : b = m + 1) {i : Nat} (B : Bin (fun q => !lt d[m]! d[q]!) a m i i) : MvL (pre ++ (merge lt U V ++ post)) i m d := by
 have l1 := t.la; have l2 := t.lm; have l3 := t.lb; have b1 := B.li; have b2 := B.jh
 obtain ⟨x, rfl⟩ : ∃ x, V = [x] := List.length_eq_one_iff.1 (by omega)
 obtain ⟨_, ex⟩ := t.getV (q := m) (Nat.le_refl _) (by omega)
 have ex : d[m]! = x := by rw [ex]; simp
 have e := merge_one (lt := lt) (U.take (i - a)) (U.drop (i - a)) x
  (fun y hy => by obtain ⟨q, q1, q2, rfl⟩ := t.memU (by omega) (by omega) hy; have := B.yes q q1 q2; rw [ex] at this; simpa using this)
  (fun y hy => by obtain ⟨q, q1, q2, rfl⟩ := t.memU' (by omega) (by omega) hy; have := B.no q q1 q2; rw [ex] at this; simpa using this)
 rw [List.take_append_drop] at e
 refine ⟨pre ++ U.take (i - a), U.drop (i - a), post, x, by rw [List.length_append, List.length_take]; omega, by rw [List.length_drop]; omega, ?_, by rw [e]; simp⟩
 rw [t.list]
 simp only [List.append_assoc, List.cons_append, List.nil_append]
 rw [← List.append_assoc (List.take (i - a) U), List.take_append_drop]
/-- (3) parted in the middle. -/
theorem Two.mono3 (O : Stable.Ord lt) (t : Two lt a m b pre U V post d) {p lo hi : Nat} (h1 : a ≤ lo) (h2 : hi ≤ m) (h3 : ∀ c, lo ≤ c → c < hi → c ≤ p ∧ m ≤ p - c ∧ p - c < b) : Mono (fun c => !lt d[p - c]! d[c]!) lo hi := fun q c q1 q2 q3 hp => by
 have hp : lt d[p - c]! d[c]! = false := by simpa using hp
 have k1 := h3 c (by omega) q3
 have k2 := h3 q q1 (by omega)
 have e1 := t.incU O (q := q) (c := c) (by omega) q2 (by omega)
 have e2 := t.incV O (q := p - c) (c := p - q) (by omega) (by omega) (by omega)
 have := O.le_trans (O.le_trans e1 hp) e2
 simp [this]
/-- The bounds of the search, and what it must keep. -/
structure Mid (a m b mid lo hi : Nat) : Prop where
 am : a < m
 mb : m < b
 midd : mid = (a + b) / 2
 way : (m > mid ∧ lo + b = mid + m ∧ hi = mid) ∨ (m ≤ mid ∧ lo = a ∧ hi = m)
theorem Mid.facts {mid lo hi : Nat} (M : Mid a m b mid lo hi) : a ≤ lo ∧ lo ≤ hi ∧ hi ≤ m ∧ hi ≤ mid ∧ a < mid ∧ mid < b ∧ (∀ c, lo ≤ c → c < hi → c ≤ mid + m - 1 ∧ m ≤ mid + m - 1 - c ∧ mid + m - 1 - c < b) := by
 obtain ⟨h1, h2, h3, h4⟩ := M
 have k : 2 * mid ≤ a + b ∧ a + b ≤ 2 * mid + 1 := by omega
 clear h3
 rcases h4 with ⟨g1, g2, g3⟩ | ⟨g1, g2, g3⟩
 ·refine ⟨by omega, by omega, by omega, by omega, by omega, by omega, fun c c1 c2 => ⟨by omega, by omega, by omega⟩⟩
 ·refine ⟨by omega, by omega, by omega, by omega, by omega, by omega, fun c c1 c2 => ⟨by omega, by omega, by omega⟩⟩
theorem Two.parted (O : Stable.Ord lt) (t : Two lt a m b pre U V post d) {mid lo hi s : Nat} (M : Mid a m b mid lo hi) (B : Bin (fun c => !lt d[mid + m - 1 - c]! d[c]!) lo hi s s) :
  merge lt U V = merge lt (U.take (s - a)) (V.take (mid + m - s - m)) ++ merge lt (U.drop (s - a)) (V.drop (mid + m - s - m)) := by
 obtain ⟨f1, f2, f3, f4, f5, f6, f7⟩ := M.facts
 have b1 := B.li; have b2 := B.jh
 have w := M.way; have am := M.am; have mb := M.mb
 have eb : mid + m - s ≤ b := by
  rcases w with ⟨g1, g2, g3⟩ | ⟨g1, g2, g3⟩
  ·omega
  ·have := M.midd; omega
 have e := merge_split (lt := lt) (U.take (s - a)) (V.take (mid + m - s - m)) (U.drop (s - a)) (V.drop (mid + m - s - m)) ?_ ?_
 ·rw [List.take_append_drop, List.take_append_drop] at e; exact e
 ·intro x hx y hy
  obtain ⟨q, q1, q2, rfl⟩ := t.memU (by omega) (by omega) hx
  obtain ⟨r, r1, r2, rfl⟩ := t.memV' (by omega) eb hy
  have hs : lo < s := by
   rcases w with ⟨g1, g2, g3⟩ | ⟨g1, g2, g3⟩
   ·omega
   ·omega
  have hp := B.yes (s - 1) (by omega) (by omega)
  have hp : lt d[mid + m - 1 - (s - 1)]! d[s - 1]! = false := by simpa using hp
  rw [show mid + m - 1 - (s - 1) = mid + m - s by omega] at hp
  have e1 := t.incU O (q := q) (c := s - 1) (by omega) (by omega) (by omega)
  have e2 := t.incV O (q := mid + m - s) (c := r) (by omega) (by omega) (by omega)
  exact O.le_trans (O.le_trans e1 hp) e2
 ·intro y hy x hx
  obtain ⟨q, q1, q2, rfl⟩ := t.memU' (by omega) (by omega) hx
  obtain ⟨r, r1, r2, rfl⟩ := t.memV (by omega) eb hy
  have hs : s < hi := by
   rcases w with ⟨g1, g2, g3⟩ | ⟨g1, g2, g3⟩
   ·omega
   ·omega
  have hp := B.no s (Nat.le_refl _) hs
  have hp : lt d[mid + m - 1 - s]! d[s]! = true := by simpa using hp
  have e1 := t.incU O (q := s) (c := q) (by omega) (by omega) (by omega)
  have e2 := t.incV O (q := r) (c := mid + m - 1 - s) (by omega) (by omega) (by omega)
  exact Ord.lt_of O (Ord.lt_le O hp e1) e2
end
/-- The list, when the middle has been turned; when the left half is one; when all is. -/
def St1 (U V pre post : List α) (a m s e n : Nat) (d : Array α) : Prop := d.toList = pre ++ (U.take (s - a) ++ (V.take (e - m) ++ (U.drop (s - a) ++ (V.drop (e - m) ++ post)))) ∧ d.size = n
def St2 (lt : α → α → Bool) (U V pre post : List α) (a m s e n : Nat) (d : Array α) : Prop := d.toList = (pre ++ merge lt (U.take (s - a)) (V.take (e - m))) ++ (U.drop (s - a) ++ (V.drop (e - m) ++ post)) ∧ d.size = n
def St3 (lt : α → α → Bool) (U V pre post : List α) (n : Nat) (d : Array α) : Prop := d.toList = pre ++ (merge lt U V ++ post) ∧ d.size = n
/-- Two sorted neighbours, and where they are parted. -/
structure Parts (lt : α → α → Bool) (a m b mid s e : Nat) (U V : List α) : Prop where
 sa : a ≤ s
 sm : s ≤ m
 smid : s ≤ mid
 me : m ≤ e
 eb : e ≤ b
 mide : mid ≤ e
 ee : e + s = mid + m
 lu : U.length + a = m
 lv : V.length + m = b
 su : Sorted lt U
 sv : Sorted lt V
 par : merge lt U V = merge lt (U.take (s - a)) (V.take (e - m)) ++ merge lt (U.drop (s - a)) (V.drop (e - m))
section
variable {lt : α → α → Bool} {a m b mid s e n : Nat} {pre U V post : List α} {d : Array α}
theorem Two.parts (O : Stable.Ord lt) (t : Two lt a m b pre U V post d) {lo hi : Nat} (M : Mid a m b mid lo hi) (B : Bin (fun c => !lt d[mid + m - 1 - c]! d[c]!) lo hi s s) : Parts lt a m b mid s (mid + m - s) U V := by
 obtain ⟨f1, f2, f3, f4, f5, f6, f7⟩ := M.facts
 have b1 := B.li; have b2 := B.jh
 have eb : mid + m - s ≤ b := by
  rcases M.way with ⟨g1, g2, g3⟩ | ⟨g1, g2, g3⟩
  ·omega
  ·have := M.midd; omega
 exact ⟨by omega, by omega, by omega, by omega, eb, by omega, by omega, t.lm, t.lb, t.su, t.sv, t.parted O M B⟩
theorem Parts.l1 (p : Parts lt a m b mid s e U V) : (U.take (s - a)).length = s - a ∧ (U.drop (s - a)).length = m - s ∧ (V.take (e - m)).length = e - m ∧ (V.drop (e - m)).length = b - e := by
 have h1 := p.sa; have h2 := p.sm; have h3 := p.me; have h4 := p.eb; have h5 := p.lu; have h6 := p.lv
 refine ⟨by rw [List.length_take]; omega, by rw [List.length_drop]; omega, by rw [List.length_take]; omega, by rw [List.length_drop]; omega⟩
theorem Parts.whole (p : Parts lt a m b mid s e U V) (h : d.toList = pre ++ (U ++ (V ++ post))) : d.toList = pre ++ (U.take (s - a) ++ (U.drop (s - a) ++ (V.take (e - m) ++ (V.drop (e - m) ++ post)))) := by
 rw [h, ← List.append_assoc (V.take _), List.take_append_drop, ← List.append_assoc (U.take _), List.take_append_drop]
theorem Parts.left (p : Parts lt a m b mid s e U V) (hp : pre.length = a) (h : d.toList = pre ++ (U ++ (V ++ post))) : Left m (pre ++ (U.take (s - a) ++ (V.take (e - m) ++ (U.drop (s - a) ++ (V.drop (e - m) ++ post))))) (m - s) (e - m) d := by
 obtain ⟨l1, l2, l3, l4⟩ := p.l1
 have h1 := p.sa; have h2 := p.sm
 refine ⟨pre ++ U.take (s - a), U.drop (s - a), V.take (e - m), V.drop (e - m) ++ post, l2, l3, by rw [List.length_append, l1]; omega, by rw [p.whole h]; simp, by simp⟩
theorem Parts.st1_none (p : Parts lt a m b mid s e U V) (h : d.toList = pre ++ (U ++ (V ++ post))) (hn : d.size = n) (hz : ¬ (s < m ∧ m < e)) : St1 U V pre post a m s e n d := by
 obtain ⟨l1, l2, l3, l4⟩ := p.l1
 have h1 := p.sm; have h2 := p.me
 refine ⟨?_, hn⟩
 rw [p.whole h]
 by_cases hs : s < m
 ·have : V.take (e - m) = [] := List.eq_nil_of_length_eq_zero (by omega)
  rw [this]; simp
 ·have : U.drop (s - a) = [] := List.eq_nil_of_length_eq_zero (by omega)
  rw [this]; simp
theorem St1.two (h : St1 U V pre post a m s e n d) (p : Parts lt a m b mid s e U V) (hp : pre.length = a) : Two lt a s mid pre (U.take (s - a)) (V.take (e - m)) (U.drop (s - a) ++ (V.drop (e - m) ++ post)) d := by
 obtain ⟨l1, l2, l3, l4⟩ := p.l1
 have h1 := p.sa; have h2 := p.sm; have h3 := p.me; have h4 := p.ee
 exact ⟨h.1, hp, by omega, by omega, p.su.sublist (List.take_sublist _ _), p.sv.sublist (List.take_sublist _ _)⟩
theorem St1.none (h : St1 U V pre post a m s e n d) (p : Parts lt a m b mid s e U V) (hz : ¬ (a < s ∧ s < mid)) : St2 lt U V pre post a m s e n d := by
 obtain ⟨l1, l2, l3, l4⟩ := p.l1
 have h1 := p.sa; have h2 := p.sm; have h3 := p.me; have h4 := p.ee; have h5 := p.smid
 refine ⟨?_, h.2⟩
 rw [h.1]
 by_cases hs : a < s
 ·have : V.take (e - m) = [] := List.eq_nil_of_length_eq_zero (by omega)
  rw [this, merge_nil]; simp
 ·have : U.take (s - a) = [] := List.eq_nil_of_length_eq_zero (by omega)
  rw [this, nil_merge]; simp
theorem St2.two (h : St2 lt U V pre post a m s e n d) (p : Parts lt a m b mid s e U V) (hp : pre.length = a) : Two lt mid e b (pre ++ merge lt (U.take (s - a)) (V.take (e - m))) (U.drop (s - a)) (V.drop (e - m)) post d := by
 obtain ⟨l1, l2, l3, l4⟩ := p.l1
 have h1 := p.sa; have h2 := p.sm; have h3 := p.me; have h4 := p.ee; have h5 := p.eb
 exact ⟨h.1, by rw [List.length_append, merge_length]; omega, by omega, by omega, p.su.sublist (List.drop_sublist _ _), p.sv.sublist (List.drop_sublist _ _)⟩
theorem St2.none (h : St2 lt U V pre post a m s e n d) (p : Parts lt a m b mid s e U V) (hz : ¬ (mid < e ∧ e < b)) : St3 lt U V pre post n d := by
 obtain ⟨l1, l2, l3, l4⟩ := p.l1
 have h1 := p.sa; have h2 := p.sm; have h3 := p.me; have h4 := p.ee; have h5 := p.smid; have h6 := p.eb; have h7 := p.mide
 refine ⟨?_, h.2⟩
 rw [h.1, p.par]
 by_cases hs : mid < e
 ·have : V.drop (e - m) = [] := List.eq_nil_of_length_eq_zero (by omega)
  rw [this, merge_nil]; simp
 ·have : U.drop (s - a) = [] := List.eq_nil_of_length_eq_zero (by omega)
  rw [this, nil_merge]; simp
theorem St3.of (p : Parts lt a m b mid s e U V) (h : d.toList = (pre ++ merge lt (U.take (s - a)) (V.take (e - m))) ++ (merge lt (U.drop (s - a)) (V.drop (e - m)) ++ post)) (hn : d.size = n) : St3 lt U V pre post n d :=
 ⟨by rw [h, p.par]; simp, hn⟩
theorem St2.of (h : d.toList = pre ++ (merge lt (U.take (s - a)) (V.take (e - m)) ++ (U.drop (s - a) ++ (V.drop (e - m) ++ post)))) (hn : d.size = n) : St2 lt U V pre post a m s e n d :=
 ⟨by rw [h]; simp, hn⟩
end
end
section
variable {α : Type} [Inhabited α] {lt : α → α → Bool}
theorem isort_one (x : α) : isort lt [x] = [x] := by
 rw [isort, List.foldl_cons, List.foldl_nil, nil_merge]
theorem isort_nil : isort lt ([] : List α) = [] := rfl
/-- x at place j, S's begin ahead of it, S's end, all greater, behind it. -/
def Ins (lt : α → α → Bool) (pre S rest : List α) (x : α) (a j : Nat) (dj : Array α) : Prop :=
 ∃ S1 S2 : List α, S = S1 ++ S2 ∧ S1.length + a = j ∧ (∀ e ∈ S2, lt x e = true) ∧ dj.toList = pre ++ (S1 ++ x :: (S2 ++ rest))
theorem Ins.start {pre S rest : List α} {x : α} {a i : Nat} {d : Array α} (h : d.toList = pre ++ (S ++ x :: rest)) (hl : S.length + a = i) : Ins lt pre S rest x a i d :=
 ⟨S, [], by simp, hl, by simp, by rw [h]; simp⟩
theorem Ins.cur {pre S rest : List α} {x : α} {a j : Nat} {dj : Array α} (h : Ins lt pre S rest x a j dj) (hp : pre.length = a) : dj[j]! = x := by
 obtain ⟨S1, S2, hS, hl, hg, hd⟩ := h
 have := get_at dj (pre ++ S1) (S2 ++ rest) x (by rw [hd]; simp)
 rw [show (pre ++ S1).length = j by rw [List.length_append]; omega] at this
 exact this
theorem Ins.step {pre S rest : List α} {x : α} {a j : Nat} {dj : Array α} (h : Ins lt pre S rest x a (j + 1) dj) (hp : pre.length = a) (hj : a < j + 1) (hlt : lt dj[j + 1]! dj[j]! = true) : Ins lt pre S rest x a j (swp dj (j + 1) j) := by
 have hc := h.cur hp
 obtain ⟨S1, S2, hS, hl, hg, hd⟩ := h
 have hne : S1 ≠ [] := by intro e; subst e; simp at hl; omega
 have e : S1 = S1.dropLast ++ [S1.getLast hne] := (List.dropLast_concat_getLast hne).symm
 have hl' : S1.dropLast.length + a = j := by rw [List.length_dropLast]; omega
 generalize S1.dropLast = S1' at e hl'
 generalize S1.getLast hne = y at e
 subst e
 have hy : dj[j]! = y := by
  have := get_at dj (pre ++ S1') (x :: (S2 ++ rest)) y (by rw [hd]; simp)
  rw [show (pre ++ S1').length = j by rw [List.length_append]; omega] at this
  exact this
 rw [hc, hy] at hlt
 have s := swp_list' dj (pre ++ S1') [] (S2 ++ rest) y x (by rw [hd]; simp)
 rw [show (pre ++ S1').length = j by rw [List.length_append]; omega] at s
 refine ⟨S1', y :: S2, by rw [hS]; simp, hl', ?_, by rw [show j + 1 = j + 1 + ([] : List α).length from rfl, s]; simp⟩
 intro e he
 rcases List.mem_cons.1 he with rfl | he
 ·exact hlt
 ·exact hg e he
theorem Ins.done (O : Stable.Ord lt) {pre S rest : List α} {x : α} {a j : Nat} {dj : Array α} (h : Ins lt pre S rest x a j dj) (hp : pre.length = a) (hs : Sorted lt S) (hstop : j ≤ a ∨ lt dj[j]! dj[j - 1]! = false) : dj.toList = pre ++ (merge lt S [x] ++ rest) := by
 have hc := h.cur hp
 obtain ⟨S1, S2, hS, hl, hg, hd⟩ := h
 have h1 : ∀ e ∈ S1, lt x e = false := by
  intro e he
  rcases hstop with hstop | hstop
  ·have : S1 = [] := List.eq_nil_of_length_eq_zero (by omega)
   subst this; cases he
  ·have hne : S1 ≠ [] := by intro e; subst e; cases he
   have e1 : S1 = S1.dropLast ++ [S1.getLast hne] := (List.dropLast_concat_getLast hne).symm
   have hl' : S1.dropLast.length + a + 1 = j := by rw [List.length_dropLast]; have := List.length_pos_iff.2 hne; omega
   generalize S1.dropLast = S1' at e1 hl'
   generalize S1.getLast hne = y at e1
   subst e1
   have hy : dj[j - 1]! = y := by
    have := get_at dj (pre ++ S1') (x :: (S2 ++ rest)) y (by rw [hd]; simp)
    rw [show (pre ++ S1').length = j - 1 by rw [List.length_append]; omega] at this
    exact this
   rw [hc, hy] at hstop
   rcases List.mem_append.1 he with he | he
   ·subst hS
    have hs' : Sorted lt (S1' ++ [y]) := (List.pairwise_append.1 hs).1
    have := (List.pairwise_append.1 hs').2.2 e he y List.mem_cons_self
    exact O.le_trans this hstop
   ·rw [List.mem_singleton] at he; subst he; exact hstop
 rw [hd, hS, merge_one S1 S2 x h1 hg]; simp
/-- What the outer loop has done. -/
def Outer (lt : α → α → Bool) (pre seg post : List α) (a i : Nat) (d : Array α) : Prop := d.toList = pre ++ (isort lt (seg.take (i - a)) ++ (seg.drop (i - a) ++ post))
theorem Outer.start {pre seg post : List α} {a : Nat} {d : Array α} (h : d.toList = pre ++ (seg ++ post)) : Outer lt pre seg post a (a + 1) d := by
 unfold Outer
 rw [show a + 1 - a = 1 by omega, h]
 cases seg with
 | nil => rfl
 | cons x seg => simp [isort_one]
theorem Outer.next {pre seg post : List α} {a i : Nat} {d : Array α} (h : Outer lt pre seg post a i d) (hi : a < i) (hb : i < seg.length + a) : ∃ x, Ins lt pre (isort lt (seg.take (i - a))) (seg.drop (i + 1 - a) ++ post) x a i d ∧ ∀ d' : Array α, d'.toList = pre ++ (merge lt (isort lt (seg.take (i - a))) [x] ++ (seg.drop (i + 1 - a) ++ post)) → Outer lt pre seg post a (i + 1) d' := by
 have hl : i - a < seg.length := by omega
 refine ⟨seg[i - a], Ins.start ?_ ?_, fun d' h' => ?_⟩
 ·unfold Outer at h
  rw [h, List.drop_eq_getElem_cons hl, show i - a + 1 = i + 1 - a by omega]; simp
 ·rw [isort_length, List.length_take]; omega
 ·unfold Outer
  rw [h', ← isort_snoc, show i + 1 - a = i - a + 1 by omega, List.take_add_one, List.getElem?_eq_getElem hl]; rfl
theorem Outer.done {pre seg post : List α} {a i : Nat} {d : Array α} (h : Outer lt pre seg post a i d) (hb : ¬ i < seg.length + a) : d.toList = pre ++ (isort lt seg ++ post) := by
 unfold Outer at h
 rw [h, List.take_of_length_le (by omega), List.drop_of_length_le (by omega)]; simp
/-- Blocks of s elements (the last one of at most so many), each sorted. -/
inductive Blk (lt : α → α → Bool) (s : Nat) : List α → List α → Prop
 | last (l : List α) : l.length ≤ s → Blk lt s l (isort lt l)
 | cons (l1 l2 t2 : List α) : l1.length = s → Blk lt s l2 t2 → Blk lt s (l1 ++ l2) (isort lt l1 ++ t2)
theorem Blk.whole {s : Nat} {l t : List α} (h : Blk lt s l t) : l.length ≤ s → t = isort lt l := by
 induction h with
 | last l h => intro _; rfl
 | cons l1 l2 t2 h1 h2 ih =>
  intro h
  rw [List.length_append] at h
  have : l2 = [] := List.eq_nil_of_length_eq_zero (by omega)
  subst this
  rw [ih (by simp), isort_nil]; simp
theorem Blk.split {s : Nat} {l t : List α} (h : Blk lt s l t) (hl : s ≤ l.length) : ∃ l1 l2 t2, l = l1 ++ l2 ∧ l1.length = s ∧ t = isort lt l1 ++ t2 ∧ Blk lt s l2 t2 := by
 cases h with
 | last l h => exact ⟨l, [], [], by simp, by omega, by simp, Blk.last [] (by simp)⟩
 | cons l1 l2 t2 h1 h2 => exact ⟨l1, l2, t2, rfl, h1, rfl, h2⟩
theorem Blk.length {s : Nat} {l t : List α} (h : Blk lt s l t) : t.length = l.length := by
 induction h with
 | last l h => exact isort_length l
 | cons l1 l2 t2 h1 h2 ih => rw [List.length_append, List.length_append, isort_length, ih]
/-- The first pass: blocks that have been sorted, the rest as it was. -/
def Pass0 (lt : α → α → Bool) (s : Nat) (l : List α) (a : Nat) (d : Array α) : Prop := ∃ T lr : List α, d.toList = T ++ lr ∧ T.length = a ∧ lr.length + a = l.length ∧ ∀ t, Blk lt s lr t → Blk lt s l (T ++ t)
theorem Pass0.start (s : Nat) (d : Array α) : Pass0 lt s d.toList 0 d := ⟨[], d.toList, rfl, rfl, rfl, fun t h => h⟩
theorem Pass0.next {s a : Nat} {l : List α} {d : Array α} (h : Pass0 lt s l a d) (hb : a + s ≤ l.length) : ∃ pre seg post : List α, d.toList = pre ++ (seg ++ post) ∧ pre.length = a ∧ seg.length = s ∧ ∀ d' : Array α, d'.toList = pre ++ (isort lt seg ++ post) → Pass0 lt s l (a + s) d' := by
 obtain ⟨T, lr, hd, hT, hl, hc⟩ := h
 refine ⟨T, lr.take s, lr.drop s, by rw [hd, List.take_append_drop], hT, by rw [List.length_take]; omega, fun d' h' => ⟨T ++ isort lt (lr.take s), lr.drop s, by rw [h']; simp, by rw [List.length_append, isort_length, List.length_take]; omega, by rw [List.length_drop]; omega, fun t ht => ?_⟩⟩
 have := Blk.cons (lr.take s) (lr.drop s) t (by rw [List.length_take]; omega) ht
 rw [List.take_append_drop] at this
 rw [List.append_assoc]
 exact hc _ this
theorem Pass0.last {s a : Nat} {l : List α} {d : Array α} (h : Pass0 lt s l a d) (hb : ¬ a + s ≤ l.length) : ∃ pre seg : List α, d.toList = pre ++ (seg ++ []) ∧ pre.length = a ∧ seg.length + a = l.length ∧ ∀ d' : Array α, d'.toList = pre ++ (isort lt seg ++ []) → Blk lt s l d'.toList := by
 obtain ⟨T, lr, hd, hT, hl, hc⟩ := h
 refine ⟨T, lr, by rw [hd]; simp, hT, hl, fun d' h' => ?_⟩
 rw [h', List.append_nil]
 exact hc _ (Blk.last lr (by omega))
/-- A pass that joins neighbours: those that have been joined, the rest as it was. -/
def Pass (lt : α → α → Bool) (s : Nat) (l : List α) (a : Nat) (d : Array α) : Prop := ∃ T lr t : List α, d.toList = T ++ t ∧ T.length = a ∧ lr.length + a = l.length ∧ Blk lt s lr t ∧ ∀ t', Blk lt (2 * s) lr t' → Blk lt (2 * s) l (T ++ t')
theorem Pass.start {s : Nat} {l : List α} {d : Array α} (h : Blk lt s l d.toList) : Pass lt s l 0 d := ⟨[], l, d.toList, rfl, rfl, rfl, h, fun t h => h⟩
theorem Pass.next (O : Stable.Ord lt) {s a : Nat} {l : List α} {d : Array α} (h : Pass lt s l a d) (hb : a + 2 * s ≤ l.length) : ∃ pre U V post : List α, Two lt a (a + s) (a + 2 * s) pre U V post d ∧ ∀ d' : Array α, d'.toList = pre ++ (merge lt U V ++ post) → Pass lt s l (a + 2 * s) d' := by
 obtain ⟨T, lr, t, hd, hT, hl, hB, hc⟩ := h
 obtain ⟨l1, r1, t1, rfl, h1, rfl, hB1⟩ := hB.split (by omega)
 rw [List.length_append] at hl
 obtain ⟨l2, r2, t2, rfl, h2, rfl, hB2⟩ := hB1.split (by omega)
 rw [List.length_append] at hl
 refine ⟨T, isort lt l1, isort lt l2, t2, ⟨hd, hT, by rw [isort_length]; omega, by rw [isort_length]; omega, isort_sorted O l1, isort_sorted O l2⟩, fun d' h' => ⟨T ++ isort lt (l1 ++ l2), r2, t2, by rw [h', isort_append O]; simp, by rw [List.length_append, isort_length, List.length_append]; omega, by omega, hB2, fun t' ht' => ?_⟩⟩
 have := hc _ (by rw [← List.append_assoc]; exact Blk.cons (l1 ++ l2) r2 t' (by rw [List.length_append]; omega) ht')
 rwa [List.append_assoc]
theorem Pass.last (O : Stable.Ord lt) {s a : Nat} {l : List α} {d : Array α} (h : Pass lt s l a d) (hb : ¬ a + 2 * s ≤ l.length) (hm : a + s < l.length) : ∃ pre U V : List α, Two lt a (a + s) l.length pre U V [] d ∧ ∀ d' : Array α, d'.toList = pre ++ (merge lt U V ++ []) → Blk lt (2 * s) l d'.toList := by
 obtain ⟨T, lr, t, hd, hT, hl, hB, hc⟩ := h
 obtain ⟨l1, r1, t1, rfl, h1, rfl, hB1⟩ := hB.split (by omega)
 rw [List.length_append] at hl
 have e1 := hB1.whole (by omega)
 subst e1
 refine ⟨T, isort lt l1, isort lt r1, ⟨by rw [hd]; simp, hT, by rw [isort_length]; omega, by rw [isort_length]; omega, isort_sorted O l1, isort_sorted O r1⟩, fun d' h' => ?_⟩
 rw [h', List.append_nil, ← isort_append O]
 exact hc _ (Blk.last _ (by rw [List.length_append]; omega))
theorem Pass.none {s a : Nat} {l : List α} {d : Array α} (h : Pass lt s l a d) (hb : ¬ a + 2 * s ≤ l.length) (hm : ¬ a + s < l.length) : Blk lt (2 * s) l d.toList := by
 obtain ⟨T, lr, t, hd, hT, hl, hB, hc⟩ := h
 have e1 := hB.whole (by omega)
 rw [hd, e1]
 exact hc _ (Blk.last _ (by omega))
end
end Go.Proofs.YtcmiehddjgfjaaaGreat.St
namespace Go.Proofs.YtcmiehddjgfjaaaGreat.St.GSs
open Go.Proofs Go.Shelf Go.RowKit Go.Lib Go.Sort
/-- What the walks take of a program: its functions and types at these numbers. -/
structure StLays (P : Program) : Prop where
 mixed : P.follows .mixedOrders = true
 f30 : P.funcs[146]? = some Tryz.f146
 f33 : P.funcs[167]? = some Tryz.f167
 f34 : P.funcs[168]? = some Tryz.f168
 f36 : P.funcs[177]? = some Tryz.f177
 f37 : P.funcs[181]? = some Tryz.f181
 e33 : ∀ args w, (callFunc 167 args).run P w = .ok (.enter 167 args) w
 e34 : ∀ args w, (callFunc 168 args).run P w = .ok (.enter 168 args) w
 e36 : ∀ args w, (callFunc 177 args).run P w = .ok (.enter 177 args) w
 e37 : ∀ args w, (callFunc 181 args).run P w = .ok (.enter 181 args) w
 t3 : P.underlying 3 = some (TypeDesc.int IntKind.i64)
 a3 : ∀ w, (isAgg 3).run P w = .ok false w
 z3 : ∀ w, (Go.sizeOf 3).run P w = .ok 1 w
 v3 : ∀ w, (zeroValue 3).run P w = .ok (Value.int IntKind.i64 0) w
 t4 : P.underlying 4 = some (TypeDesc.bool)
 a4 : ∀ w, (isAgg 4).run P w = .ok false w
 z4 : ∀ w, (Go.sizeOf 4).run P w = .ok 1 w
 v4 : ∀ w, (zeroValue 4).run P w = .ok (Value.bool false) w
 t53 : P.underlying 141 = some (TypeDesc.int IntKind.u64)
 a53 : ∀ w, (isAgg 141).run P w = .ok false w
 z53 : ∀ w, (Go.sizeOf 141).run P w = .ok 1 w
 t22 : P.underlying 33 = some (TypeDesc.slice 37)
 a22 : ∀ w, (isAgg 33).run P w = .ok false w
 z22 : ∀ w, (Go.sizeOf 33).run P w = .ok 1 w
 t45 : P.underlying 82 = some (TypeDesc.func #[37, 37] #[3] false)
 a45 : ∀ w, (isAgg 82).run P w = .ok false w
 z45 : ∀ w, (Go.sizeOf 82).run P w = .ok 1 w
variable {P : Program} {α : Type} [Inhabited α]
theorem swapRange_w (L : StLays P) (k : Nat) (aE : ∀ w, (isAgg 37).run P w = .ok true w) (zE : ∀ w, (Go.sizeOf 37).run P w = .ok k w) (enc : α → List Value) (g : Nat) (cb : Array Value) (blk off cap a b n : Nat) (d0 d : Array α) (w0 w : World)
  (R : RowK enc k w0 blk off d0) (hs : d0.size = d.size) (S : SB enc k w0 blk off d w) (ha : a + n ≤ d.size) (hb : b + n ≤ d.size) (hsz : d.size < 4611686018427387904) :
  Calls P 181 #[.slice (some ⟨blk, off, none⟩) d.size cap, .int .i64 a, .int .i64 b, .int .i64 n, .func (.func g) #[] cb] w fun e w' => e = .returned (.tuple #[]) ∧ SB enc k w0 blk off (swpR a b 0 n d) w' := by
 have mixed := L.mixed; have t3 := L.t3; have a3 := L.a3; have z3 := L.z3; have v3 := L.v3; have t4 := L.t4; have a4 := L.a4; have z4 := L.z4; have v4 := L.v4; have t22 := L.t22; have a22 := L.a22; have z22 := L.z22
 have FG := L.f37
 have S0 : Aside (SB enc k w0 blk off d w) := S
 clear S
 go_enter FG, Tryz.ntmps181
 go_wp2_with fail
 go_loopg [10] n (fun kx s10 wr => ∃ (i : Nat) (dk : Array α), s10 = .int .i64 i ∧ i ≤ n ∧ kx = n - i ∧ dk.size = d.size ∧ Aside (SB enc k w0 blk off dk wr) ∧ swpR a b i (n - i) dk = swpR a b 0 n d)
 case atStart => exact ⟨0, d, rfl, Nat.zero_le _, rfl, rfl, S0, rfl⟩
 case round =>
  clear S0
  obtain ⟨i, dk, rfl, hin, hkx, hds, S1, heq⟩ := hrel
  by_cases hlt : i < n
  ·have hltz : (i : Int) < (n : Int) := by omega
   go_wp2_with fail
   have eA : ((a : Int) + (i : Int)).toNat = a + i := by omega
   have pA : (0 : Int) ≤ (a : Int) + (i : Int) := by omega
   have bA : (a : Int) + (i : Int) < (d.size : Int) := by omega
   have rA : IntKind.i64.wrap ((a : Int) + (i : Int)) = (a : Int) + (i : Int) := by rw [IntKind.wrap_i64]; omega
   have eB : ((b : Int) + (i : Int)).toNat = b + i := by omega
   have pB : (0 : Int) ≤ (b : Int) + (i : Int) := by omega
   have bB : (b : Int) + (i : Int) < (d.size : Int) := by omega
   have rB : IntKind.i64.wrap ((b : Int) + (i : Int)) = (b : Int) + (i : Int) := by rw [IntKind.wrap_i64]; omega
   have S2 : Aside (SB enc k w0 blk off (swp dk (a + i) (b + i)) ((wr.drew.setCells blk (off + (a + i) * k) (enc dk[b + i]!)).setCells blk (off + (b + i) * k) (enc dk[a + i]!))) := S1.out.swapped R (a + i) (b + i) (by omega) (by omega)
   have la := S1.out.ld1 R (by omega) P (a + i) (by omega)
   have lb := S1.out.ld1 R (by omega) P (b + i) (by omega)
   have sa := S1.out.st1 R (by omega) P (a + i) (by omega) dk[b + i]!
   have sb := S1.out.st2 R (by omega) P (a + i) (b + i) (by omega) (by omega) dk[b + i]! dk[a + i]!
   have na : (enc dk[a + i]!).length = k := R.hk _
   have nb : (enc dk[b + i]!).length = k := R.hk _
   generalize enc dk[a + i]! = cI at S2 la sb na
   generalize enc dk[b + i]! = cJ at S2 lb sa sb nb
   clear S1
   go_wp2_with fail
   go_big_region_o
   clear la lb sa sb
   generalize (wr.drew.setCells blk (off + (a + i) * k) cJ).setCells blk (off + (b + i) * k) cI = w2 at S2 ⊢
   go_wp2
   go_roundg (n - (i + 1))
   case measure => omega
   case rel =>
    rw [show n - i = n - (i + 1) + 1 by omega, swpR] at heq
    exact ⟨i + 1, swp dk (a + i) (b + i), by go_num, by omega, rfl, by rw [size_swp]; exact hds, S2, heq⟩
  ·have hi : i = n := by omega
   subst hi
   go_wp2
   go_end0
   refine ⟨rfl, ?_⟩
   rw [Nat.sub_self, swpR] at heq
   rw [← heq]
   exact S1.out
variable {P : Program} {α : Type} [Inhabited α]
theorem rotate_w (L : StLays P) (k : Nat) (aE : ∀ w, (isAgg 37).run P w = .ok true w) (zE : ∀ w, (Go.sizeOf 37).run P w = .ok k w) (enc : α → List Value) (g : Nat) (cb : Array Value) (blk off cap a m b : Nat) (d0 d : Array α) (w0 w : World)
  (R : RowK enc k w0 blk off d0) (hs : d0.size = d.size) (S : SB enc k w0 blk off d w) (ham : a < m) (hmb : m < b) (hb : b ≤ d.size) (hsz : d.size < 4611686018427387904) (t : List α) (ht : Left m t (m - a) (b - m) d) :
  Calls P 177 #[.slice (some ⟨blk, off, none⟩) d.size cap, .int .i64 a, .int .i64 m, .int .i64 b, .func (.func g) #[] cb] w fun e w' => e = .returned (.tuple #[]) ∧ ∃ d', d'.toList = t ∧ d'.size = d.size ∧ SB enc k w0 blk off d' w' := by
 have mixed := L.mixed; have t3 := L.t3; have a3 := L.a3; have z3 := L.z3; have v3 := L.v3; have t4 := L.t4; have a4 := L.a4; have z4 := L.z4; have v4 := L.v4; have t22 := L.t22; have a22 := L.a22; have z22 := L.z22
 have FG := L.f36
 have e37 := L.e37
 have S0 : Aside (SB enc k w0 blk off d w) := S
 have HT : Aside (Left m t (m - a) (b - m) d) := ht
 have LL : Aside (StLays P) := L
 clear S ht L
 have c1 : ((m - a : Nat) : Int) = (m : Int) - (a : Int) := by omega
 have c2 : ((b - m : Nat) : Int) = (b : Int) - (m : Int) := by omega
 have C1 := aside (c1)
 have C2 := aside (c2)
 clear c1 c2
 go_enter FG, Tryz.ntmps177
 go_wp2_with fail
 go_loopg [10, 11] (b - a) (fun kx s10 s11 wr => ∃ (i j : Nat) (dk : Array α), s10 = .int .i64 i ∧ s11 = .int .i64 j ∧ 0 < i ∧ 0 < j ∧ kx = i + j ∧ i ≤ m ∧ m + j ≤ d.size ∧ dk.size = d.size ∧ Aside (SB enc k w0 blk off dk wr) ∧ Aside (Left m t i j dk))
 case atStart => exact ⟨m - a, b - m, d, by rw [C1.out], by rw [C2.out], by omega, by omega, by omega, by omega, by omega, rfl, S0, HT⟩
 case round =>
  clear S0 HT
  obtain ⟨i, j, dk, rfl, rfl, hi, hj, hkx, him, hmj, hds, S1, HL⟩ := hrel
  have call : ∀ (x y n : Nat), x + n ≤ d.size → y + n ≤ d.size → Calls P 181 #[.slice (some ⟨blk, off, none⟩) d.size cap, .int .i64 x, .int .i64 y, .int .i64 n, .func (.func g) #[] cb] wr fun e w' => e = .returned (.tuple #[]) ∧ SB enc k w0 blk off (swpR x y 0 n dk) w' := by
   intro x y n hx hy
   rw [← hds]
   exact swapRange_w LL.out k aE zE enc g cb blk off cap x y n d0 dk w0 wr R (by omega) S1.out (by omega) (by omega) (by omega)
  have CALL := aside (call)
  clear call
  by_cases he : i = j
  ·subst he
   have c3 : ((m : Int) - (i : Int)) = ((m - i : Nat) : Int) := by omega
   have hc := CALL.out (m - i) m i (by omega) (by omega)
   have HL2 := aside (left_same HL.out)
   clear CALL HL
   go_wp2_with (go_at_fn 181; refine hc.mono ?_; rintro e w1 ⟨rfl, hw1⟩)
   go_end0
   exact ⟨rfl, _, HL2.out, by rw [swpR_size]; exact hds, hw1⟩
  ·by_cases hg : j < i
   ·have c3 : ((m : Int) - (i : Int)) = ((m - i : Nat) : Int) := by omega
    have hc := CALL.out (m - i) m j (by omega) (by omega)
    have HL2 := aside (left_great HL.out hg)
    clear CALL HL
    go_wp2_with (go_at_fn 181; refine hc.mono ?_; rintro e w1 ⟨rfl, hw1⟩)
    have S2 := aside (hw1)
    clear hw1 hc
    go_roundg (i - j + j)
    case measure => omega
    case rel => exact ⟨i - j, j, _, by go_num, rfl, by omega, by omega, rfl, by omega, by omega, by rw [swpR_size]; exact hds, S2, HL2⟩
   ·have c3 : ((m : Int) - (i : Int)) = ((m - i : Nat) : Int) := by omega
    have c4 : ((m : Int) + (j : Int) - (i : Int)) = ((m + j - i : Nat) : Int) := by omega
    have hc := CALL.out (m - i) (m + j - i) i (by omega) (by omega)
    have HL2 := aside (left_less HL.out (by omega))
    clear CALL HL
    go_wp2_with (go_at_fn 181; refine hc.mono ?_; rintro e w1 ⟨rfl, hw1⟩)
    have S2 := aside (hw1)
    clear hw1 hc
    go_roundg (i + (j - i))
    case measure => omega
    case rel => exact ⟨i, j - i, _, rfl, by go_num, by omega, by omega, rfl, by omega, by omega, by rw [swpR_size]; exact hds, S2, HL2⟩
end Go.Proofs.YtcmiehddjgfjaaaGreat.St.GSs
