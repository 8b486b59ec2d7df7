/- A part of the proof of LawQReduce: contracts and plain laws, put together by a program of this session. -/
import Derived.Test.YtcmiehddjgfjaaaGreatCRed0
import Derived.Test.YtcmiehddjgfjaaaGreatProg
import Derived.Below
import Derived.Deep.Draws
import Derived.Deep.AppendLies
import Derived.Maps.AppendAt
import Derived.OwnWalk
import Derived.Laws.BytesArg
import Derived.Laws.MakeOwn
import Derived.Laws.OwnMore
import Derived.Deep.OwnRows
import Derived.Tactics
import Derived.Lib.ConvBytes
import Derived.Laws.Slices
import Derived.WalkKit
import Derived.KernelRfl
import Derived.RowKit3
import Derived.Deep.LoopGhost
import Derived.Deep.QuietTactic
import Derived.BigQuiet
import Derived.WideLaws
import Derived.Deep.DeepCutAuto
import Derived.Deep.CutBlock
import Derived.Deep.RegionHeld3
import Derived.Laws.Rows
import Derived.Lib.AppendStr
import Derived.ArgAppend
import Derived.Laws.IdiomCopy
import Derived.OrdersHeld
import Derived.Laws.BitsLemmas
import Derived.RowKit
set_option linter.unusedVariables false
set_option linter.unusedSimpArgs false
set_option linter.unusedSectionVars false
set_option maxHeartbeats 8000000
set_option maxRecDepth 100000
namespace Go.Proofs.YtcmiehddjgfjaaaGreat.A
open Go.RowKit Go.Proofs.YtcmiehddjgfjaaaGreatW.PrintWords Go.Proofs.YtcmiehddjgfjaaaGreatW.PrintLast Go.Proofs.YtcmiehddjgfjaaaGreatW.PrintMore
/-- W' came out of W by blocks laid and counts drawn. -/
class FwdW (W W' : World) : Prop where
  b : ∀ (g : Nat) (o : Obj), W.heap[g]? = some o → W'.heap[g]? = some o
  l : ∀ (w : World), Below w.heap.size w W → Below w.heap.size w W'
instance (W : World) : FwdW W W := ⟨fun _ _ h => h, fun _ h => h⟩
instance (W W' : World) (o : Obj) [f : FwdW W W'] : FwdW W (W'.alloc o) := ⟨fun g x h => blk_alloc (f.b g x h) o, fun w h => bal (f.l w h) o⟩
instance (W W' : World) (n : Nat) [f : FwdW W W'] : FwdW W (W'.drewN n) := ⟨fun g x h => blk_drewN (f.b g x h) n, fun w h => pbd (f.l w h) n⟩
instance (W W' : World) [f : FwdW W W'] : FwdW W W'.drew := ⟨fun g x h => blk_drew (f.b g x h), fun w h => (f.l w h).drew⟩
theorem blkF {W W' : World} {g : Nat} {o : Obj} (h : W.heap[g]? = some o) [f : FwdW W W'] : W'.heap[g]? = some o := f.b g o h
theorem blwF {w W W' : World} (h : Below w.heap.size w W) [f : FwdW W W'] : Below w.heap.size w W' := f.l w h
theorem fwK {W W' : World} {g : Nat} {o : Obj} (h : Sd (W.heap[g]? = some o)) [f : FwdW W W'] : Sd (W'.heap[g]? = some o) := ⟨f.b g o h.out⟩
/-- One step: a block laid, or a count drawn. -/
class StW (W : outParam World) (W' : World) : Prop where
  b : Below W.heap.size W W'
instance (W : World) (o : Obj) : StW W (W.alloc o) := ⟨bal (Below.refl _ _) o⟩
instance (W : World) (n : Nat) : StW W (W.drewN n) := ⟨pbd (Below.refl _ _) n⟩
instance (W : World) : StW W W.drew := ⟨(Below.refl _ _).drew⟩
theorem dw {W W' : World} [s : StW W W'] {g : Nat} {o : Obj} (h : W.heap[g]? = some o) : W'.heap[g]? = some o := blk_below h s.b
theorem dR {W W' : World} [s : StW W W'] {α : Type} {d : Kd α} {e base : Nat} {ok : Nat → Prop} {v : Value} {xs : List α} (h : d.R e W base ok v xs) : d.R e W' base ok v xs := Kd.R_below h s.b
theorem bbl {w W : World} (h : Below w.heap.size w W := by repeat (first | exact Sd.out (by with_reducible assumption) | with_reducible apply bal | with_reducible apply pbd | with_reducible apply bd1 | with_reducible refine bst ?_ (Sd.out (by with_reducible assumption)) | exact Sd.out (by assumption))) : Below w.heap.size w W := h
theorem bsq (w : World) {W W2 : World} (k : Below W.heap.size W W2) (h : Below w.heap.size w W := by exact bbl) : Sd (Below w.heap.size w W2) := ⟨below_step h k⟩
theorem bge (w : World) {W : World} {g : Nat} (hg : g = W.heap.size) (h : Below w.heap.size w W := by exact bbl) : Sd (w.heap.size ≤ g) := ⟨hg ▸ h.size⟩
theorem bkb {W W1 W2 : World} {g : Nat} {o : Obj} (h : Sd (W.heap[g]? = some o)) (hb : Below W1.heap.size W1 W2) [f : FwdW W W1] : Sd (W2.heap[g]? = some o) := ⟨blk_below (f.b g o h.out) hb⟩
theorem bnl {W W' : World} {g g' : Nat} {o : Obj} (h : Sd (W.heap[g]? = some o)) (hg : g' = W'.heap.size) [f : FwdW W W'] : Sd (g ≠ g') := ⟨by rw [hg]; exact Nat.ne_of_lt (blk_lt (f.b g o h.out))⟩
theorem bng {W W' : World} {g g' : Nat} {o : Obj} (h : Sd (W.heap[g]? = some o)) (hg : g' = W'.heap.size) [f : FwdW W W'] : Sd (g' ≠ g) := ⟨by rw [hg]; exact Nat.ne_of_gt (blk_lt (f.b g o h.out))⟩
theorem bz0 {W : World} {g t : Nat} {u : Value} {l : List Value} (h : Sd (W.heap[g]? = some (.cells (List.toArray (u :: l)) t (0, 0)))) : W.cell? ⟨g, 0, none⟩ = some u := blk_cell h.out 0
theorem bz1 {W : World} {g t : Nat} {u v : Value} {l : List Value} (h : Sd (W.heap[g]? = some (.cells (List.toArray (u :: v :: l)) t (0, 0)))) : W.cell? ⟨g, 1, none⟩ = some v := blk_cell h.out 1
theorem bz2 {W : World} {g t : Nat} {u v x : Value} {l : List Value} (h : Sd (W.heap[g]? = some (.cells (List.toArray (u :: v :: x :: l)) t (0, 0)))) : W.cell? ⟨g, 2, none⟩ = some x := blk_cell h.out 2
theorem bz {W : World} {g t : Nat} {u v : Value} (h : Sd (W.heap[g]? = some (.cells (List.toArray [u, v]) t (0, 0)))) : W.cell? ⟨g, 0, none⟩ = some u ∧ W.cell? ⟨g, 1, none⟩ = some v ∧ W.frozen? ⟨g, 0, none⟩ = false ∧ W.frozen? ⟨g, 1, none⟩ = false := ⟨blk_cell h.out 0, blk_cell h.out 1, blk_frozen h.out 0, blk_frozen h.out 1⟩
theorem fe {α : Sort _} {a b : α} (h : a = b := by first | rfl | (simp [errW_none, errW_some] <;> rfl) | (simp [*, errW_none, errW_some] <;> rfl)) : a = b := h
theorem ae {α : Sort _} {a b : α} (h : a = b := by first | rfl | (simp; done) | (simp [*]; done)) : a = b := h
theorem ma {α : Sort _} {a b : α} (h : a = b := by ((try simp only [List.map_toArray, List.map_cons, List.map_nil]); first | done | rfl | (simp only [List.length_drop, List.length_take]; rfl))) : a = b := h
theorem brb {W W1 W2 : World} {α : Type} {d : Kd α} {e base : Nat} {ok : Nat → Prop} {v : Value} {xs : List α} (h : Sd (d.R e W base ok v xs)) (hb : Below W1.heap.size W1 W2) [f : FwdW W W1] : Sd (d.R e W2 base ok v xs) := ⟨Kd.R_below (Kd.R_below h.out (f.l W (Below.refl _ _))) hb⟩
theorem fwR {W W1 : World} {α : Type} {d : Kd α} {e base : Nat} {ok : Nat → Prop} {v : Value} {xs : List α} (h : Sd (d.R e W base ok v xs)) [f : FwdW W W1] : Sd (d.R e W1 base ok v xs) := ⟨Kd.R_below h.out (f.l W (Below.refl _ _))⟩
theorem bnd {α β : Type} {x : Option α} {f : α → Option β} {r : β} (h : x.bind f = some r) : ∃ t, Sd (x = some t) ∧ f t = some r := by obtain ⟨t, h1, h2⟩ := Option.bind_eq_some_iff.mp h; exact ⟨t, ⟨h1⟩, h2⟩
theorem ode {p : Prop} [d : Decidable p] (h : decide p = true := by first | (with_reducible assumption) | assumption) : p := of_decide_eq_true h
theorem hxc {w W : World} {a : Addr} {v : Value} (h : Sd (Below w.heap.size w W)) (k : w.cell? a = some v) : W.cell? a = some v := (h.out.cell (World.block_lt_of_cell? w _ k)).trans k
theorem iT {α : Type} {d : Decidable (true = true)} {a b r : α} (h : @ite α (true = true) d a b = r) : a = r := by rw [if_pos rfl] at h; exact h
theorem iF {α : Type} {d : Decidable (false = true)} {a b r : α} (h : @ite α (false = true) d a b = r) : b = r := by rw [if_neg Bool.false_ne_true] at h; exact h
section
variable {P : Program} {ops : Array Oper} {rest : List Oper} {o : Oper} {a : Act} {Q : Exit → Act → World → Prop}
theorem bxe {W : World} {N : Tmp} {cs : Array Value} {t : TypeId} (h : ∀ g, g = W.heap.size → ∀ w1, w1.heap[g]? = some (.cells cs t (0, 0)) → Below W.heap.size W w1 → wpList P ops Q rest (a.put o.dst (.pointer (some ⟨g, 0, none⟩))) w1) (hgd : o.guard = none := by rfl) (hd : o.dst = some N := by rfl)
    (hrun : (execOp a.eval o).run P W = .ok (.value (.pointer (some ⟨W.heap.size, 0, none⟩))) (W.alloc (.cells cs t (0, 0))) := by first | (go_simp; done) | (go_simp; rfl)) : wpList P ops Q (o :: rest) a W := box_event hgd hd hrun h
end
end Go.Proofs.YtcmiehddjgfjaaaGreat.A
namespace Go.Proofs.YtcmiehddjgfjaaaGreat.A
open Go.RowKit Go.Proofs.YtcmiehddjgfjaaaGreatW.PrintWords Go.Proofs.YtcmiehddjgfjaaaGreatW.PrintLast Go.Proofs.YtcmiehddjgfjaaaGreatW.PrintMore
attribute [local go_sem] max2_int min2_int max_two min_two max_three min_three max_four min_four   -- for this text's walks alone
def errW : Option Int → Value
 | none => .nilIface
 | some c => .iface 0 (.int .i64 c)
theorem errW_none : errW none = .nilIface := rfl
theorem errW_some (c : Int) : errW (some c) = .iface 0 (.int .i64 c) := rfl
theorem info25 : (Tryz.prog.info? 25).map (fun i => (i.zero, i.size, i.bytes)) = some (some (.agg #[(.int .i64 0), (.int .i64 0)]), 2, 16) := by kernel_rfl
theorem info37 : (Tryz.prog.info? 37).map (fun i => (i.zero, i.size, i.bytes)) = some (some (.agg #[(.slice none 0 0), (.int .i64 0), (.int .i64 0)]), 3, 40) := by kernel_rfl
theorem info39 : (Tryz.prog.info? 39).map (fun i => (i.zero, i.size, i.bytes)) = some (some (.agg #[(.int .i64 0), (.int .i64 0), (.int .i64 0)]), 3, 24) := by kernel_rfl
theorem info62 : (Tryz.prog.info? 62).map (fun i => (i.zero, i.size, i.bytes)) = some (some (.agg #[(.string ⟨#[]⟩), (.string ⟨#[]⟩)]), 2, 32) := by kernel_rfl
structure S25 where
 f0 : Int
 f1 : Int
def z25 : S25 := ⟨(0 : Int), (0 : Int)⟩
def k25 : Kd S25 := Kd.iso (Kd.pair (Kd.int .i64) (Kd.int .i64)) (fun x : S25 => (x.f0, x.f1))
theorem k25_open {w : World} {x : S25} {cs : List Value} (h : k25.K w x cs) : cs = [.int .i64 x.f0, .int .i64 x.f1] := by
 obtain ⟨_, _, rfl, rfl, rfl⟩ := h
 exact rfl
theorem k25_openM {w : World} {base : Nat} {ok : Nat → Prop} {x : S25} {cs : List Value} (h : k25.M w base ok x cs) : cs = [.int .i64 x.f0, .int .i64 x.f1] := by
 obtain ⟨_, _, rfl, rfl, rfl⟩ := h
 exact rfl
theorem k25_mk (w : World) (x : S25)  : k25.K w x [.int .i64 x.f0, .int .i64 x.f1] := ⟨[.int .i64 x.f0], [.int .i64 x.f1], rfl, rfl, rfl⟩
theorem k25_mkM (w : World) (base : Nat) (ok : Nat → Prop) (x : S25)  : k25.M w base ok x [.int .i64 x.f0, .int .i64 x.f1] := ⟨[.int .i64 x.f0], [.int .i64 x.f1], rfl, rfl, rfl⟩
def rd_T25 (xs : List S25) (i : Int) : S25 := xs.getD i.toNat z25
theorem at_T25 {w : World} {A : Option Addr} {n : Nat} {xs : List S25} (h : Kd.C k25 w A n xs) (i : Int) (h0 : 0 ≤ i) (h1 : i < n) : ∃ ad , A = some ad ∧ w.cell? (ad.add (i.toNat * 2)) = some (.int .i64 (rd_T25 xs i).f0) ∧ w.cell? ⟨(ad.add (i.toNat * 2)).block, (ad.add (i.toNat * 2)).off + 1, none⟩ = some (.int .i64 (rd_T25 xs i).f1) := by
 obtain ⟨ad, c, e, _, hK, hc0⟩ := Kd.C_get h z25 i h0 h1
 have hc : ∀ j u, c[j]? = some u → w.cell? (ad.add (i.toNat * 2 + j)) = some u := hc0
 obtain rfl := k25_open hK
 exact ⟨ad, e, hc 0 _ rfl, by rw [← add_field _ _ 1 (by omega)]; exact hc 1 _ rfl⟩
structure S62 where
 f0 : ByteArray
 f1 : ByteArray
def z62 : S62 := ⟨(⟨#[]⟩ : ByteArray), (⟨#[]⟩ : ByteArray)⟩
def k62 : Kd S62 := Kd.iso (Kd.pair Kd.string Kd.string) (fun x : S62 => (x.f0, x.f1))
theorem k62_open {w : World} {x : S62} {cs : List Value} (h : k62.K w x cs) : cs = [.string x.f0, .string x.f1] := by
 obtain ⟨_, _, rfl, rfl, rfl⟩ := h
 exact rfl
theorem k62_openM {w : World} {base : Nat} {ok : Nat → Prop} {x : S62} {cs : List Value} (h : k62.M w base ok x cs) : cs = [.string x.f0, .string x.f1] := by
 obtain ⟨_, _, rfl, rfl, rfl⟩ := h
 exact rfl
theorem k62_mk (w : World) (x : S62)  : k62.K w x [.string x.f0, .string x.f1] := ⟨[.string x.f0], [.string x.f1], rfl, rfl, rfl⟩
theorem k62_mkM (w : World) (base : Nat) (ok : Nat → Prop) (x : S62)  : k62.M w base ok x [.string x.f0, .string x.f1] := ⟨[.string x.f0], [.string x.f1], rfl, rfl, rfl⟩
def rd_T62 (xs : List S62) (i : Int) : S62 := xs.getD i.toNat z62
theorem at_T62 {w : World} {A : Option Addr} {n : Nat} {xs : List S62} (h : Kd.C k62 w A n xs) (i : Int) (h0 : 0 ≤ i) (h1 : i < n) : ∃ ad , A = some ad ∧ w.cell? (ad.add (i.toNat * 2)) = some (.string (rd_T62 xs i).f0) ∧ w.cell? ⟨(ad.add (i.toNat * 2)).block, (ad.add (i.toNat * 2)).off + 1, none⟩ = some (.string (rd_T62 xs i).f1) := by
 obtain ⟨ad, c, e, _, hK, hc0⟩ := Kd.C_get h z62 i h0 h1
 have hc : ∀ j u, c[j]? = some u → w.cell? (ad.add (i.toNat * 2 + j)) = some u := hc0
 obtain rfl := k62_open hK
 exact ⟨ad, e, hc 0 _ rfl, by rw [← add_field _ _ 1 (by omega)]; exact hc 1 _ rfl⟩
structure S39 where
 f0 : Int
 f1 : S25
def z39 : S39 := ⟨(0 : Int), z25⟩
def k39 : Kd S39 := Kd.iso (Kd.pair (Kd.int .i64) k25) (fun x : S39 => (x.f0, x.f1))
theorem k39_open {w : World} {x : S39} {cs : List Value} (h : k39.K w x cs) : cs = [.int .i64 x.f0, .int .i64 x.f1.f0, .int .i64 x.f1.f1] := by
 obtain ⟨_, _, rfl, rfl, s1⟩ := h
 obtain rfl := k25_open s1
 exact rfl
theorem k39_openM {w : World} {base : Nat} {ok : Nat → Prop} {x : S39} {cs : List Value} (h : k39.M w base ok x cs) : cs = [.int .i64 x.f0, .int .i64 x.f1.f0, .int .i64 x.f1.f1] := by
 obtain ⟨_, _, rfl, rfl, s1⟩ := h
 obtain rfl := k25_openM s1
 exact rfl
theorem k39_mk (w : World) (x : S39)  : k39.K w x [.int .i64 x.f0, .int .i64 x.f1.f0, .int .i64 x.f1.f1] := ⟨[.int .i64 x.f0], [.int .i64 x.f1.f0, .int .i64 x.f1.f1], rfl, rfl, (k25_mk w x.f1 )⟩
theorem k39_mkM (w : World) (base : Nat) (ok : Nat → Prop) (x : S39)  : k39.M w base ok x [.int .i64 x.f0, .int .i64 x.f1.f0, .int .i64 x.f1.f1] := ⟨[.int .i64 x.f0], [.int .i64 x.f1.f0, .int .i64 x.f1.f1], rfl, rfl, (k25_mkM w base ok x.f1 )⟩
def rd_T39 (xs : List S39) (i : Int) : S39 := xs.getD i.toNat z39
theorem at_T39 {w : World} {A : Option Addr} {n : Nat} {xs : List S39} (h : Kd.C k39 w A n xs) (i : Int) (h0 : 0 ≤ i) (h1 : i < n) : ∃ ad , A = some ad ∧ w.cell? (ad.add (i.toNat * 3)) = some (.int .i64 (rd_T39 xs i).f0) ∧ w.cell? ⟨(ad.add (i.toNat * 3)).block, (ad.add (i.toNat * 3)).off + 1, none⟩ = some (.int .i64 (rd_T39 xs i).f1.f0) ∧ w.cell? ⟨(ad.add (i.toNat * 3)).block, (ad.add (i.toNat * 3)).off + 2, none⟩ = some (.int .i64 (rd_T39 xs i).f1.f1) := by
 obtain ⟨ad, c, e, _, hK, hc0⟩ := Kd.C_get h z39 i h0 h1
 have hc : ∀ j u, c[j]? = some u → w.cell? (ad.add (i.toNat * 3 + j)) = some u := hc0
 obtain rfl := k39_open hK
 exact ⟨ad, e, hc 0 _ rfl, by rw [← add_field _ _ 1 (by omega)]; exact hc 1 _ rfl, by rw [← add_field _ _ 2 (by omega)]; exact hc 2 _ rfl⟩
structure S37 where
 f0 : (List S62)
 f1 : S25
def z37 : S37 := ⟨([] : List S62), z25⟩
def k37 : Kd S37 := Kd.iso (Kd.pair (Kd.slice 62 k62) k25) (fun x : S37 => (x.f0, x.f1))
theorem k37_open {w : World} {x : S37} {cs : List Value} (h : k37.K w x cs) : ∃ A0 c0, cs = [.slice A0 x.f0.length c0, .int .i64 x.f1.f0, .int .i64 x.f1.f1] ∧ x.f0.length ≤ c0 ∧ k62.C w A0 x.f0.length x.f0 := by
 obtain ⟨_, _, rfl, ⟨A0, c0, rfl, l0, g0⟩, s1⟩ := h
 obtain rfl := k25_open s1
 exact ⟨A0, c0, rfl, l0, g0⟩
theorem k37_mk (w : World) (x : S37) {A0 : Option Addr} {c0 : Nat} (l0 : x.f0.length ≤ c0) (g0 : k62.C w A0 x.f0.length x.f0) : k37.K w x [.slice A0 x.f0.length c0, .int .i64 x.f1.f0, .int .i64 x.f1.f1] := ⟨[.slice A0 x.f0.length c0], [.int .i64 x.f1.f0, .int .i64 x.f1.f1], rfl, ⟨A0, c0, rfl, l0, g0⟩, (k25_mk w x.f1 )⟩
def rd_T37 (xs : List S37) (i : Int) : S37 := xs.getD i.toNat z37
theorem at_T37 {w : World} {A : Option Addr} {n : Nat} {xs : List S37} (h : Kd.C k37 w A n xs) (i : Int) (h0 : 0 ≤ i) (h1 : i < n) : ∃ ad A0 c0, A = some ad ∧ w.cell? (ad.add (i.toNat * 3)) = some (.slice A0 (rd_T37 xs i).f0.length c0) ∧ w.cell? ⟨(ad.add (i.toNat * 3)).block, (ad.add (i.toNat * 3)).off + 1, none⟩ = some (.int .i64 (rd_T37 xs i).f1.f0) ∧ w.cell? ⟨(ad.add (i.toNat * 3)).block, (ad.add (i.toNat * 3)).off + 2, none⟩ = some (.int .i64 (rd_T37 xs i).f1.f1) ∧ (rd_T37 xs i).f0.length ≤ c0 ∧ k62.C w A0 (rd_T37 xs i).f0.length (rd_T37 xs i).f0 := by
 obtain ⟨ad, c, e, _, hK, hc0⟩ := Kd.C_get h z37 i h0 h1
 have hc : ∀ j u, c[j]? = some u → w.cell? (ad.add (i.toNat * 3 + j)) = some u := hc0
 obtain ⟨A0, c0, rfl, l0, g0⟩ := k37_open hK
 exact ⟨ad, A0, c0, e, hc 0 _ rfl, by rw [← add_field _ _ 1 (by omega)]; exact hc 1 _ rfl, by rw [← add_field _ _ 2 (by omega)]; exact hc 2 _ rfl, l0, g0⟩
theorem eqA25 (d : Nat) (w : World) (x0 y0 : Int) (x1 y1 : Int) :
  (Op.equalIn (d + 2) 25 (.agg #[.int .i64 x0, .int .i64 x1]) (.agg #[.int .i64 y0, .int .i64 y1])).run Tryz.prog w = .ok (x0 == y0 && (x1 == y1)) w := by
 refine eqA_of Tryz.underlying25 (by kernel_rfl) ?_
 refine eqf_cons (by rfl) (by go_simp; rfl) (by go_simp; rfl) (by go_simp) ?_
 exact eqf_last (by rfl) (by go_simp; rfl) (by go_simp; rfl) (by go_simp)
def v_NaN.f  : Option (Int × Int) := some (3, 0)
theorem v_NaN.calls  (r1 : Int) (r2 : Int) (w : World) (h : v_NaN.f  = some (r1, r2)) :
  Calls Tryz.prog 42 #[] w fun e w' => e = .returned (.agg #[.int .i64 r1, .int .i64 r2]) ∧ Below w.heap.size w w' := by
 have hu25 := Tryz.underlying25
 have HB := Sd.mk (Below.refl w.heap.size w)
 have H : (some (3, 0)) = some (r1, r2) := h
 clear h
 simp only [Option.some.injEq, Prod.mk.injEq] at H
 obtain ⟨rfl, rfl⟩ := H
 go_enter Tryz.func42, Tryz.ntmps42
 go_wp2_with (first | ((with_reducible refine gate_dst (N := 0) rfl ?_); refine bxe (N := 0) (cs := #[.int .i64 0, .int .i64 0]) (t := 25) ?_; intro gb101 hg w1 hbox hb; have BK101 := Sd.mk hbox; have GW101 := bge w hg; have GE101 := bge w hg; replace HB := bsq w hb; clear hb hbox hg; have hcz2_0 := bz0 BK101; have hcz2_1 := bz1 BK101; have hfz2_0 := blk_frozen BK101.out 0; have hfz2_1 := blk_frozen BK101.out 1))
 refine bodyPost_ret (results_cell_row rfl _ _ gb101 25 #[.int .i64 3, .int .i64 0] (0, 0) _ rfl (by (repeat refine dw ?_); refine blk_put (cs := #[.int .i64 3, .int .i64 0]) ?_ 1 _ rfl; (repeat refine dw ?_); refine blk_put (cs := #[.int .i64 0, .int .i64 0]) ?_ 0 _ rfl; (repeat refine dw ?_); exact BK101.out) Tryz.underlying25 rfl (by kernel_rfl)) rfl ?_
 exact ⟨fe, bbl⟩
def v_Plus.f  : Option (Int × Int) := some (4, 0)
theorem v_Plus.calls  (r1 : Int) (r2 : Int) (w : World) (h : v_Plus.f  = some (r1, r2)) :
  Calls Tryz.prog 111 #[] w fun e w' => e = .returned (.agg #[.int .i64 r1, .int .i64 r2]) ∧ Below w.heap.size w w' := by
 have hu25 := Tryz.underlying25
 have HB := Sd.mk (Below.refl w.heap.size w)
 have H : (some (4, 0)) = some (r1, r2) := h
 clear h
 simp only [Option.some.injEq, Prod.mk.injEq] at H
 obtain ⟨rfl, rfl⟩ := H
 go_enter Tryz.func111, Tryz.ntmps111
 go_wp2_with (first | ((with_reducible refine gate_dst (N := 0) rfl ?_); refine bxe (N := 0) (cs := #[.int .i64 0, .int .i64 0]) (t := 25) ?_; intro gb102 hg w1 hbox hb; have BK102 := Sd.mk hbox; have GW102 := bge w hg; have GE102 := bge w hg; replace HB := bsq w hb; clear hb hbox hg; have hcz2_0 := bz0 BK102; have hcz2_1 := bz1 BK102; have hfz2_0 := blk_frozen BK102.out 0; have hfz2_1 := blk_frozen BK102.out 1))
 refine bodyPost_ret (results_cell_row rfl _ _ gb102 25 #[.int .i64 4, .int .i64 0] (0, 0) _ rfl (by (repeat refine dw ?_); refine blk_put (cs := #[.int .i64 4, .int .i64 0]) ?_ 1 _ rfl; (repeat refine dw ?_); refine blk_put (cs := #[.int .i64 0, .int .i64 0]) ?_ 0 _ rfl; (repeat refine dw ?_); exact BK102.out) Tryz.underlying25 rfl (by kernel_rfl)) rfl ?_
 exact ⟨fe, bbl⟩
def v_Minus.f  : Option (Int × Int) := some (5, 0)
theorem v_Minus.calls  (r1 : Int) (r2 : Int) (w : World) (h : v_Minus.f  = some (r1, r2)) :
  Calls Tryz.prog 112 #[] w fun e w' => e = .returned (.agg #[.int .i64 r1, .int .i64 r2]) ∧ Below w.heap.size w w' := by
 have hu25 := Tryz.underlying25
 have HB := Sd.mk (Below.refl w.heap.size w)
 have H : (some (5, 0)) = some (r1, r2) := h
 clear h
 simp only [Option.some.injEq, Prod.mk.injEq] at H
 obtain ⟨rfl, rfl⟩ := H
 go_enter Tryz.func112, Tryz.ntmps112
 go_wp2_with (first | ((with_reducible refine gate_dst (N := 0) rfl ?_); refine bxe (N := 0) (cs := #[.int .i64 0, .int .i64 0]) (t := 25) ?_; intro gb103 hg w1 hbox hb; have BK103 := Sd.mk hbox; have GW103 := bge w hg; have GE103 := bge w hg; replace HB := bsq w hb; clear hb hbox hg; have hcz2_0 := bz0 BK103; have hcz2_1 := bz1 BK103; have hfz2_0 := blk_frozen BK103.out 0; have hfz2_1 := blk_frozen BK103.out 1))
 refine bodyPost_ret (results_cell_row rfl _ _ gb103 25 #[.int .i64 5, .int .i64 0] (0, 0) _ rfl (by (repeat refine dw ?_); refine blk_put (cs := #[.int .i64 5, .int .i64 0]) ?_ 1 _ rfl; (repeat refine dw ?_); refine blk_put (cs := #[.int .i64 0, .int .i64 0]) ?_ 0 _ rfl; (repeat refine dw ?_); exact BK103.out) Tryz.underlying25 rfl (by kernel_rfl)) rfl ?_
 exact ⟨fe, bbl⟩
def v_Num.f (a0 : Int) : Option (Int × Int) := if a0 > 1000000000000000 then ((v_Plus.f).bind fun bt105 => (some (bt105.1, bt105.2))) else (if a0 < (-1000000000000000) then ((v_Minus.f).bind fun bt107 => (some (bt107.1, bt107.2))) else (some (1, a0)))
theorem v_Num.calls (a0 : Int) (r1 : Int) (r2 : Int) (w : World) (h : v_Num.f a0 = some (r1, r2)) :
  Calls Tryz.prog 76 #[.int .i64 a0] w fun e w' => e = .returned (.agg #[.int .i64 r1, .int .i64 r2]) ∧ Below w.heap.size w w' := by
 have hu25 := Tryz.underlying25
 have HB := Sd.mk (Below.refl w.heap.size w)
 have H : (if a0 > 1000000000000000 then ((v_Plus.f).bind fun bt105 => (some (bt105.1, bt105.2))) else (if a0 < (-1000000000000000) then ((v_Minus.f).bind fun bt107 => (some (bt107.1, bt107.2))) else (some (1, a0)))) = some (r1, r2) := h
 clear h
 by_cases c2 : a0 > 1000000000000000
 ·rw [if_pos c2] at H
  have c2b0 : decide (1000000000000000 < a0) = true := decide_eq_true c2
  clear c2
  obtain ⟨⟨t105, t106⟩, A3, H⟩ := bnd H
  replace H : (some (t105, t106)) = some (r1, r2) := H
  simp only [Option.some.injEq, Prod.mk.injEq] at H
  obtain ⟨rfl, rfl⟩ := H
  go_enter Tryz.func76, Tryz.ntmps76
  go_wp2_with (first | ((with_reducible refine gate_dst (N := 2) rfl ?_); refine bxe (N := 2) (cs := #[.int .i64 0, .int .i64 0]) (t := 25) ?_; intro gb104 hg w4 hbox hb; have BK104 := Sd.mk hbox; have GW104 := bge w hg; have GE104 := bge w hg; replace HB := bsq w hb; clear hb hbox hg) | ((with_reducible refine gate_callee (f := 111) rfl ?_); refine goesL_ (some 6) rfl rfl Tryz.func111 (by kernel_rfl) rfl #[] rfl ma ?_; (with_reducible refine (v_Plus.calls  t105 t106 _ A3.out).mono ?_); rintro e w5 ⟨rfl, hb⟩; refine ⟨_, rfl, ?_⟩; replace BK104 := bkb BK104 hb; replace HB := bsq w hb; (try clear hb); have hcz6_0 := bz0 BK104; have hcz6_1 := bz1 BK104; have hfz6_0 := blk_frozen BK104.out 0; have hfz6_1 := blk_frozen BK104.out 1))
  refine bodyPost_ret (results_cell_row rfl _ _ gb104 25 #[.int .i64 t105, .int .i64 t106] (0, 0) _ rfl (by (repeat refine dw ?_); refine blk_put (cs := #[.int .i64 t105, .int .i64 0]) ?_ 1 _ rfl; (repeat refine dw ?_); refine blk_put (cs := #[.int .i64 0, .int .i64 0]) ?_ 0 _ rfl; (repeat refine dw ?_); exact BK104.out) Tryz.underlying25 rfl (by kernel_rfl)) rfl ?_
  exact ⟨fe, bbl⟩
 ·rw [if_neg c2] at H
  have c2b0 : decide (1000000000000000 < a0) = false := decide_eq_false c2
  clear c2
  by_cases c7 : a0 < (-1000000000000000)
  ·rw [if_pos c7] at H
   have c7b0 : decide (a0 < (-1000000000000000)) = true := decide_eq_true c7
   clear c7
   obtain ⟨⟨t107, t108⟩, A8, H⟩ := bnd H
   replace H : (some (t107, t108)) = some (r1, r2) := H
   simp only [Option.some.injEq, Prod.mk.injEq] at H
   obtain ⟨rfl, rfl⟩ := H
   go_enter Tryz.func76, Tryz.ntmps76
   go_wp2_with (first | ((with_reducible refine gate_dst (N := 2) rfl ?_); refine bxe (N := 2) (cs := #[.int .i64 0, .int .i64 0]) (t := 25) ?_; intro gb104 hg w9 hbox hb; have BK104 := Sd.mk hbox; have GW104 := bge w hg; have GE104 := bge w hg; replace HB := bsq w hb; clear hb hbox hg) | ((with_reducible refine gate_callee (f := 112) rfl ?_); refine goesL_ (some 10) rfl rfl Tryz.func112 (by kernel_rfl) rfl #[] rfl ma ?_; (with_reducible refine (v_Minus.calls  t107 t108 _ A8.out).mono ?_); rintro e w10 ⟨rfl, hb⟩; refine ⟨_, rfl, ?_⟩; replace BK104 := bkb BK104 hb; replace HB := bsq w hb; (try clear hb); have hcz11_0 := bz0 BK104; have hcz11_1 := bz1 BK104; have hfz11_0 := blk_frozen BK104.out 0; have hfz11_1 := blk_frozen BK104.out 1))
   refine bodyPost_ret (results_cell_row rfl _ _ gb104 25 #[.int .i64 t107, .int .i64 t108] (0, 0) _ rfl (by (repeat refine dw ?_); refine blk_put (cs := #[.int .i64 t107, .int .i64 0]) ?_ 1 _ rfl; (repeat refine dw ?_); refine blk_put (cs := #[.int .i64 0, .int .i64 0]) ?_ 0 _ rfl; (repeat refine dw ?_); exact BK104.out) Tryz.underlying25 rfl (by kernel_rfl)) rfl ?_
   exact ⟨fe, bbl⟩
  ·rw [if_neg c7] at H
   have c7b0 : decide (a0 < (-1000000000000000)) = false := decide_eq_false c7
   clear c7
   simp only [Option.some.injEq, Prod.mk.injEq] at H
   obtain ⟨rfl, rfl⟩ := H
   go_enter Tryz.func76, Tryz.ntmps76
   go_wp2_with (first | ((with_reducible refine gate_dst (N := 2) rfl ?_); refine bxe (N := 2) (cs := #[.int .i64 0, .int .i64 0]) (t := 25) ?_; intro gb104 hg w12 hbox hb; have BK104 := Sd.mk hbox; have GW104 := bge w hg; have GE104 := bge w hg; replace HB := bsq w hb; clear hb hbox hg; have hcz13_0 := bz0 BK104; have hcz13_1 := bz1 BK104; have hfz13_0 := blk_frozen BK104.out 0; have hfz13_1 := blk_frozen BK104.out 1))
   refine bodyPost_ret (results_cell_row rfl _ _ gb104 25 #[.int .i64 1, .int .i64 a0] (0, 0) _ rfl (by (repeat refine dw ?_); refine blk_put (cs := #[.int .i64 1, .int .i64 0]) ?_ 1 _ rfl; (repeat refine dw ?_); refine blk_put (cs := #[.int .i64 0, .int .i64 0]) ?_ 0 _ rfl; (repeat refine dw ?_); exact BK104.out) Tryz.underlying25 rfl (by kernel_rfl)) rfl ?_
   exact ⟨fe, bbl⟩
def v_finite.f (a0_0 : Int) (a0_1 : Int) : Option (Bool) := some (a0_0 == 1)
theorem v_finite.calls (a0_0 : Int) (a0_1 : Int) (r : Bool) (w : World) (h : v_finite.f a0_0 a0_1 = some r) :
  Calls Tryz.prog 122 #[.agg #[.int .i64 a0_0, .int .i64 a0_1]] w fun e w' => e = .returned (.bool r) ∧ Below w.heap.size w w' := by
 have hu25 := Tryz.underlying25
 have HB := Sd.mk (Below.refl w.heap.size w)
 have H : (some (a0_0 == 1)) = some r := h
 clear h
 obtain rfl := Option.some.inj H
 go_enter Tryz.func122, Tryz.ntmps122
 go_wp2_with (first | ((with_reducible refine gate_dst (N := 1) rfl ?_); refine bxe (N := 1) (cs := #[.int .i64 a0_0, .int .i64 a0_1]) (t := 25) ?_; intro gb109 hg w2 hbox hb; have BK109 := Sd.mk hbox; have GW109 := bge w hg; have GE109 := bge w hg; replace HB := bsq w hb; clear hb hbox hg; have hcz3_0 := bz0 BK109; have hcz3_1 := bz1 BK109; have hfz3_0 := blk_frozen BK109.out 0; have hfz3_1 := blk_frozen BK109.out 1))
 go_ret
 exact ⟨fe, bbl⟩
attribute [local go_sem high] eqA25
mutual
def v_add.j0 : Nat → Bool → Int → Int → Int → Int → Option (Int × Int)
 | 0, _, _, _, _, _ => none
 | k + 1, x5, x111000, x111001, x112000, x112001 => if x5 = true then ((v_Num.f (wrap64 (x111001 + x112001))).bind fun bt115 => (some (bt115.1, bt115.2))) else ((v_finite.f x111000 x111001).bind fun t117 => (if t117 = true then (v_add.j1 k false x111000 x111001 x112000 x112001) else ((v_finite.f x112000 x112001).bind fun t118 => (if t118 = true then (v_add.j1 k false x111000 x111001 x112000 x112001) else (v_add.j1 k (!(x111000 == x112000) || (!(x111001 == x112001))) x111000 x111001 x112000 x112001)))))
def v_add.j1 : Nat → Bool → Int → Int → Int → Int → Option (Int × Int)
 | 0, _, _, _, _, _ => none
 | k + 1, x18, x111000, x111001, x112000, x112001 => if x18 = true then ((v_NaN.f).bind fun bt119 => (some (bt119.1, bt119.2))) else ((v_finite.f x111000 x111001).bind fun t121 => (if t121 = true then (some (x112000, x112001)) else (some (x111000, x111001))))
end
def v_add.f (k : Nat) (a0_0 : Int) (a0_1 : Int) (a1_0 : Int) (a1_1 : Int) : Option (Int × Int) := (v_finite.f a0_0 a0_1).bind fun t113 => (if t113 = true then ((v_finite.f a1_0 a1_1).bind fun t114 => (v_add.j0 k t114 a0_0 a0_1 a1_0 a1_1)) else (v_add.j0 k false a0_0 a0_1 a1_0 a1_1))
theorem v_add.calls (k : Nat) (a0_0 : Int) (a0_1 : Int) (a1_0 : Int) (a1_1 : Int) (r1 : Int) (r2 : Int) (w : World) (h : v_add.f k a0_0 a0_1 a1_0 a1_1 = some (r1, r2)) :
  Calls Tryz.prog 127 #[.agg #[.int .i64 a0_0, .int .i64 a0_1], .agg #[.int .i64 a1_0, .int .i64 a1_1]] w fun e w' => e = .returned (.agg #[.int .i64 r1, .int .i64 r2]) ∧ Below w.heap.size w w' := by
 have hu25 := Tryz.underlying25
 have HB := Sd.mk (Below.refl w.heap.size w)
 have H : ((v_finite.f a0_0 a0_1).bind fun t113 => (if t113 = true then ((v_finite.f a1_0 a1_1).bind fun t114 => (v_add.j0 k t114 a0_0 a0_1 a1_0 a1_1)) else (v_add.j0 k false a0_0 a0_1 a1_0 a1_1))) = some (r1, r2) := h
 clear h
 have HC3 := Sd.mk H
 clear H
 go_enter Tryz.func127, Tryz.ntmps127
 go_upto_region 1 with (first | ((with_reducible refine gate_dst (N := 2) rfl ?_); refine bxe (N := 2) (cs := #[.int .i64 a0_0, .int .i64 a0_1]) (t := 25) ?_; intro gb110 hg w4 hbox hb; have BK110 := Sd.mk hbox; have GW110 := bge w hg; have GE110 := bge w hg; replace HB := bsq w hb; clear hb hbox hg) | ((with_reducible refine gate_dst (N := 3) rfl ?_); refine bxe (N := 3) (cs := #[.int .i64 a1_0, .int .i64 a1_1]) (t := 25) ?_; intro gb111 hg w5 hbox hb; have BK111 := Sd.mk hbox; have GW111 := bge w hg; have GE111 := bge w hg; have NB110_111 := bnl BK110 hg; have NB111_110 := bng BK110 hg; replace BK110 := bkb BK110 hb; replace HB := bsq w hb; clear hb hbox hg) | ((with_reducible refine gate_dst (N := 4) rfl ?_); refine bxe (N := 4) (cs := #[.int .i64 0, .int .i64 0]) (t := 25) ?_; intro gb112 hg w6 hbox hb; have BK112 := Sd.mk hbox; have GW112 := bge w hg; have GE112 := bge w hg; have NB110_112 := bnl BK110 hg; have NB112_110 := bng BK110 hg; have NB111_112 := bnl BK111 hg; have NB112_111 := bng BK111 hg; replace BK110 := bkb BK110 hb; replace BK111 := bkb BK111 hb; replace HB := bsq w hb; clear hb hbox hg))
 (try simp only [Act.put, List.setIfInBounds_toArray, List.set_cons_zero, List.set_cons_succ])
 go_cut [5] (fun v5 wc => ∃ (kq : Nat) (x5_2 : Bool), v5 = .bool x5_2 ∧ Sd (v_add.j0 kq x5_2 a0_0 a0_1 a1_0 a1_1 = some (r1, r2)) ∧ Sd (kq ≤ k) ∧ Sd (wc.heap[gb110]? = some (.cells #[.int .i64 a0_0, .int .i64 a0_1] 25 (0, 0))) ∧ Sd (wc.heap[gb111]? = some (.cells #[.int .i64 a1_0, .int .i64 a1_1] 25 (0, 0))) ∧ Sd (wc.heap[gb112]? = some (.cells #[.int .i64 0, .int .i64 0] 25 (0, 0))) ∧ Sd (Below w.heap.size w wc))
 case first =>
  have H := HC3.out
  clear HC3
  obtain ⟨t113, A7, H⟩ := bnd H
  by_cases c8 : t113 = true
  ·subst c8
   replace H := iT H
   obtain ⟨t114, A9, H⟩ := bnd H
   have H' := Sd.mk H
   clear H
   have hnb10 := NB110_111.out
   have hnc10 := NB111_110.out
   have hnb11 := NB110_112.out
   have hnc11 := NB112_110.out
   obtain ⟨hcz12_0, hcz12_1, hfz12_0, hfz12_1⟩ := bz BK110
   go_wp2_with (first | ((with_reducible refine gate_callee (f := 122) rfl ?_); refine goesL_ (some 7) rfl rfl Tryz.func122 (by kernel_rfl) rfl #[.agg #[.int .i64 a0_0, .int .i64 a0_1]] rfl ma ?_; (with_reducible refine (v_finite.calls a0_0 a0_1 true _ A7.out).mono ?_); rintro e w13 ⟨rfl, hb⟩; refine ⟨_, rfl, ?_⟩; replace BK110 := bkb BK110 hb; replace BK111 := bkb BK111 hb; replace BK112 := bkb BK112 hb; replace HB := bsq w hb; (try clear hb); have hnb14 := NB111_112.out; have hnc14 := NB112_111.out; have hcz15_0 := bz0 BK111; have hcz15_1 := bz1 BK111; have hfz15_0 := blk_frozen BK111.out 0; have hfz15_1 := blk_frozen BK111.out 1) | (go_at_call 122; (with_reducible refine (v_finite.calls a1_0 a1_1 t114 _ A9.out).mono ?_); rintro e w16 ⟨rfl, hb⟩; replace BK110 := bkb BK110 hb; replace BK111 := bkb BK111 hb; replace BK112 := bkb BK112 hb; replace HB := bsq w hb; (try clear hb)))
   go_meet
   case rel => exact ⟨_, (t114), ae, H', ⟨by first | omega | exact Nat.le_refl _⟩, fwK BK110, fwK BK111, fwK BK112, ⟨bbl⟩⟩
  ·replace c8 := Bool.eq_false_iff.mpr c8
   subst c8
   replace H := iF H
   have H' := Sd.mk H
   clear H
   have hnb17 := NB110_111.out
   have hnc17 := NB111_110.out
   have hnb18 := NB110_112.out
   have hnc18 := NB112_110.out
   obtain ⟨hcz19_0, hcz19_1, hfz19_0, hfz19_1⟩ := bz BK110
   go_wp2_with (first | ((with_reducible refine gate_callee (f := 122) rfl ?_); refine goesL_ (some 7) rfl rfl Tryz.func122 (by kernel_rfl) rfl #[.agg #[.int .i64 a0_0, .int .i64 a0_1]] rfl ma ?_; (with_reducible refine (v_finite.calls a0_0 a0_1 false _ A7.out).mono ?_); rintro e w20 ⟨rfl, hb⟩; refine ⟨_, rfl, ?_⟩; replace BK110 := bkb BK110 hb; replace BK111 := bkb BK111 hb; replace BK112 := bkb BK112 hb; replace HB := bsq w hb; (try clear hb)))
   go_meet
   case rel => exact ⟨_, (false), ae, H', ⟨by first | omega | exact Nat.le_refl _⟩, fwK BK110, fwK BK111, fwK BK112, ⟨bbl⟩⟩
 case rest =>
  clear HC3
  obtain ⟨kq, x5_2, rfl, HA, HJ2, BK110, BK111, BK112, HB⟩ := hcut
  cases kq with
  | zero => exact absurd HA.out (by simp [v_add.j0])
  | succ kj2 =>
   have H := HA.out
   clear HA
   simp only [v_add.j0] at H
   by_cases c21 : x5_2 = true
   ·subst c21
    replace H := iT H
    obtain ⟨⟨t115, t116⟩, A22, H⟩ := bnd H
    replace H : (some (t115, t116)) = some (r1, r2) := H
    simp only [Option.some.injEq, Prod.mk.injEq] at H
    obtain ⟨rfl, rfl⟩ := H
    have hnb23 := NB110_111.out
    have hnc23 := NB111_110.out
    have hnb24 := NB110_112.out
    have hnc24 := NB112_110.out
    obtain ⟨hcz25_0, hcz25_1, hfz25_0, hfz25_1⟩ := bz BK110
    have hnb26 := NB111_112.out
    have hnc26 := NB112_111.out
    obtain ⟨hcz27_0, hcz27_1, hfz27_0, hfz27_1⟩ := bz BK111
    go_wp2_with (first | ((with_reducible refine gate_callee (f := 76) rfl ?_); refine goesL_ (some 17) rfl rfl Tryz.func76 (by kernel_rfl) rfl #[.int .i64 (wrap64 (a0_1 + a1_1))] rfl ma ?_; (with_reducible refine (v_Num.calls (wrap64 (a0_1 + a1_1)) t115 t116 _ A22.out).mono ?_); rintro e w28 ⟨rfl, hb⟩; refine ⟨_, rfl, ?_⟩; replace BK110 := bkb BK110 hb; replace BK111 := bkb BK111 hb; replace BK112 := bkb BK112 hb; replace HB := bsq w hb; (try clear hb); have hcz29_0 := bz0 BK112; have hcz29_1 := bz1 BK112; have hfz29_0 := blk_frozen BK112.out 0; have hfz29_1 := blk_frozen BK112.out 1))
    refine bodyPost_ret (results_cell_row rfl _ _ gb112 25 #[.int .i64 t115, .int .i64 t116] (0, 0) _ rfl (by (repeat refine dw ?_); refine blk_put (cs := #[.int .i64 t115, .int .i64 0]) ?_ 1 _ rfl; (repeat refine dw ?_); refine blk_put (cs := #[.int .i64 0, .int .i64 0]) ?_ 0 _ rfl; (repeat refine dw ?_); exact BK112.out) Tryz.underlying25 rfl (by kernel_rfl)) rfl ?_
    exact ⟨fe, bbl⟩
   ·replace c21 := Bool.eq_false_iff.mpr c21
    subst c21
    replace H := iF H
    have HC30 := Sd.mk H
    clear H
    go_upto_region 3 with (fail)
    go_cut [18] (fun v18 wc => ∃ (kq : Nat) (x18_29 : Bool), v18 = .bool x18_29 ∧ Sd (v_add.j1 kq x18_29 a0_0 a0_1 a1_0 a1_1 = some (r1, r2)) ∧ Sd (kq ≤ kj2) ∧ Sd (wc.heap[gb110]? = some (.cells #[.int .i64 a0_0, .int .i64 a0_1] 25 (0, 0))) ∧ Sd (wc.heap[gb111]? = some (.cells #[.int .i64 a1_0, .int .i64 a1_1] 25 (0, 0))) ∧ Sd (wc.heap[gb112]? = some (.cells #[.int .i64 0, .int .i64 0] 25 (0, 0))) ∧ Sd (Below w.heap.size w wc))
    case first =>
     have H := HC30.out
     clear HC30
     obtain ⟨t117, A31, H⟩ := bnd H
     by_cases c32 : t117 = true
     ·subst c32
      replace H := iT H
      have H' := Sd.mk H
      clear H
      have hnb33 := NB110_111.out
      have hnc33 := NB111_110.out
      have hnb34 := NB110_112.out
      have hnc34 := NB112_110.out
      obtain ⟨hcz35_0, hcz35_1, hfz35_0, hfz35_1⟩ := bz BK110
      go_wp2_with (first | ((with_reducible refine gate_callee (f := 122) rfl ?_); refine goesL_ (some 20) rfl rfl Tryz.func122 (by kernel_rfl) rfl #[.agg #[.int .i64 a0_0, .int .i64 a0_1]] rfl ma ?_; (with_reducible refine (v_finite.calls a0_0 a0_1 true _ A31.out).mono ?_); rintro e w36 ⟨rfl, hb⟩; refine ⟨_, rfl, ?_⟩; replace BK110 := bkb BK110 hb; replace BK111 := bkb BK111 hb; replace BK112 := bkb BK112 hb; replace HB := bsq w hb; (try clear hb)))
      go_meet
      case rel => exact ⟨_, (false), ae, H', ⟨by have := HJ2.out; first | omega | exact Nat.le_refl _⟩, fwK BK110, fwK BK111, fwK BK112, ⟨bbl⟩⟩
     ·replace c32 := Bool.eq_false_iff.mpr c32
      subst c32
      replace H := iF H
      obtain ⟨t118, A37, H⟩ := bnd H
      by_cases c38 : t118 = true
      ·subst c38
       replace H := iT H
       have H' := Sd.mk H
       clear H
       have hnb39 := NB110_111.out
       have hnc39 := NB111_110.out
       have hnb40 := NB110_112.out
       have hnc40 := NB112_110.out
       obtain ⟨hcz41_0, hcz41_1, hfz41_0, hfz41_1⟩ := bz BK110
       go_wp2_with (first | ((with_reducible refine gate_callee (f := 122) rfl ?_); refine goesL_ (some 20) rfl rfl Tryz.func122 (by kernel_rfl) rfl #[.agg #[.int .i64 a0_0, .int .i64 a0_1]] rfl ma ?_; (with_reducible refine (v_finite.calls a0_0 a0_1 false _ A31.out).mono ?_); rintro e w42 ⟨rfl, hb⟩; refine ⟨_, rfl, ?_⟩; replace BK110 := bkb BK110 hb; replace BK111 := bkb BK111 hb; replace BK112 := bkb BK112 hb; replace HB := bsq w hb; (try clear hb); have hnb43 := NB111_112.out; have hnc43 := NB112_111.out; have hcz44_0 := bz0 BK111; have hcz44_1 := bz1 BK111; have hfz44_0 := blk_frozen BK111.out 0; have hfz44_1 := blk_frozen BK111.out 1) | (go_at_call 122; (with_reducible refine (v_finite.calls a1_0 a1_1 true _ A37.out).mono ?_); rintro e w45 ⟨rfl, hb⟩; replace BK110 := bkb BK110 hb; replace BK111 := bkb BK111 hb; replace BK112 := bkb BK112 hb; replace HB := bsq w hb; (try clear hb)))
       go_meet
       case rel => exact ⟨_, (false), ae, H', ⟨by have := HJ2.out; first | omega | exact Nat.le_refl _⟩, fwK BK110, fwK BK111, fwK BK112, ⟨bbl⟩⟩
      ·replace c38 := Bool.eq_false_iff.mpr c38
       subst c38
       replace H := iF H
       have H' := Sd.mk H
       clear H
       have hnb46 := NB110_111.out
       have hnc46 := NB111_110.out
       have hnb47 := NB110_112.out
       have hnc47 := NB112_110.out
       obtain ⟨hcz48_0, hcz48_1, hfz48_0, hfz48_1⟩ := bz BK110
       go_wp2_with (first | ((with_reducible refine gate_callee (f := 122) rfl ?_); refine goesL_ (some 20) rfl rfl Tryz.func122 (by kernel_rfl) rfl #[.agg #[.int .i64 a0_0, .int .i64 a0_1]] rfl ma ?_; (with_reducible refine (v_finite.calls a0_0 a0_1 false _ A31.out).mono ?_); rintro e w49 ⟨rfl, hb⟩; refine ⟨_, rfl, ?_⟩; replace BK110 := bkb BK110 hb; replace BK111 := bkb BK111 hb; replace BK112 := bkb BK112 hb; replace HB := bsq w hb; (try clear hb); have hnb50 := NB111_112.out; have hnc50 := NB112_111.out; have hcz51_0 := bz0 BK111; have hcz51_1 := bz1 BK111; have hfz51_0 := blk_frozen BK111.out 0; have hfz51_1 := blk_frozen BK111.out 1) | (go_at_call 122; (with_reducible refine (v_finite.calls a1_0 a1_1 false _ A37.out).mono ?_); rintro e w52 ⟨rfl, hb⟩; replace BK110 := bkb BK110 hb; replace BK111 := bkb BK111 hb; replace BK112 := bkb BK112 hb; replace HB := bsq w hb; (try clear hb); have hcz53_0 := bz0 BK110; have hcz53_1 := bz1 BK110; have hfz53_0 := blk_frozen BK110.out 0; have hfz53_1 := blk_frozen BK110.out 1; have hcz54_0 := bz0 BK111; have hcz54_1 := bz1 BK111; have hfz54_0 := blk_frozen BK111.out 0; have hfz54_1 := blk_frozen BK111.out 1))
       go_meet
       case rel => exact ⟨_, ((!(a0_0 == a1_0) || (!(a0_1 == a1_1)))), ae, H', ⟨by have := HJ2.out; first | omega | exact Nat.le_refl _⟩, fwK BK110, fwK BK111, fwK BK112, ⟨bbl⟩⟩
    case rest =>
     clear HC30
     obtain ⟨kq, x18_29, rfl, HA, HJ29, BK110, BK111, BK112, HB⟩ := hcut
     cases kq with
     | zero => exact absurd HA.out (by simp [v_add.j1])
     | succ kj29 =>
      have H := HA.out
      clear HA
      simp only [v_add.j1] at H
      by_cases c55 : x18_29 = true
      ·subst c55
       replace H := iT H
       obtain ⟨⟨t119, t120⟩, A56, H⟩ := bnd H
       replace H : (some (t119, t120)) = some (r1, r2) := H
       simp only [Option.some.injEq, Prod.mk.injEq] at H
       obtain ⟨rfl, rfl⟩ := H
       go_wp2_with (first | ((with_reducible refine gate_callee (f := 42) rfl ?_); refine goesL_ (some 32) rfl rfl Tryz.func42 (by kernel_rfl) rfl #[] rfl ma ?_; (with_reducible refine (v_NaN.calls  t119 t120 _ A56.out).mono ?_); rintro e w57 ⟨rfl, hb⟩; refine ⟨_, rfl, ?_⟩; replace BK110 := bkb BK110 hb; replace BK111 := bkb BK111 hb; replace BK112 := bkb BK112 hb; replace HB := bsq w hb; (try clear hb); have hnb58 := NB112_110.out; have hnc58 := NB110_112.out; have hnb59 := NB112_111.out; have hnc59 := NB111_112.out; have hcz60_0 := bz0 BK112; have hcz60_1 := bz1 BK112; have hfz60_0 := blk_frozen BK112.out 0; have hfz60_1 := blk_frozen BK112.out 1))
       refine bodyPost_ret (results_cell_row rfl _ _ gb112 25 #[.int .i64 t119, .int .i64 t120] (0, 0) _ rfl (by (repeat refine dw ?_); refine blk_put (cs := #[.int .i64 t119, .int .i64 0]) ?_ 1 _ rfl; (repeat refine dw ?_); refine blk_put (cs := #[.int .i64 0, .int .i64 0]) ?_ 0 _ rfl; (repeat refine dw ?_); exact BK112.out) Tryz.underlying25 rfl (by kernel_rfl)) rfl ?_
       exact ⟨fe, bbl⟩
      ·replace c55 := Bool.eq_false_iff.mpr c55
       subst c55
       replace H := iF H
       obtain ⟨t121, A61, H⟩ := bnd H
       by_cases c62 : t121 = true
       ·subst c62
        replace H := iT H
        simp only [Option.some.injEq, Prod.mk.injEq] at H
        obtain ⟨rfl, rfl⟩ := H
        have hnb63 := NB110_111.out
        have hnc63 := NB111_110.out
        have hnb64 := NB110_112.out
        have hnc64 := NB112_110.out
        obtain ⟨hcz65_0, hcz65_1, hfz65_0, hfz65_1⟩ := bz BK110
        go_wp2_with (first | ((with_reducible refine gate_callee (f := 122) rfl ?_); refine goesL_ (some 35) rfl rfl Tryz.func122 (by kernel_rfl) rfl #[.agg #[.int .i64 a0_0, .int .i64 a0_1]] rfl ma ?_; (with_reducible refine (v_finite.calls a0_0 a0_1 true _ A61.out).mono ?_); rintro e w66 ⟨rfl, hb⟩; refine ⟨_, rfl, ?_⟩; replace BK110 := bkb BK110 hb; replace BK111 := bkb BK111 hb; replace BK112 := bkb BK112 hb; replace HB := bsq w hb; (try clear hb); have hnb67 := NB111_112.out; have hnc67 := NB112_111.out; have hcz68_0 := bz0 BK111; have hcz68_1 := bz1 BK111; have hfz68_0 := blk_frozen BK111.out 0; have hfz68_1 := blk_frozen BK111.out 1; have hcz69_0 := bz0 BK112; have hcz69_1 := bz1 BK112; have hfz69_0 := blk_frozen BK112.out 0; have hfz69_1 := blk_frozen BK112.out 1))
        refine bodyPost_ret (results_cell_row rfl _ _ gb112 25 #[.int .i64 a1_0, .int .i64 a1_1] (0, 0) _ rfl (by (repeat refine dw ?_); refine blk_put (cs := #[.int .i64 a1_0, .int .i64 0]) ?_ 1 _ rfl; (repeat refine dw ?_); refine blk_put (cs := #[.int .i64 0, .int .i64 0]) ?_ 0 _ rfl; (repeat refine dw ?_); exact BK112.out) Tryz.underlying25 rfl (by kernel_rfl)) rfl ?_
        exact ⟨fe, bbl⟩
       ·replace c62 := Bool.eq_false_iff.mpr c62
        subst c62
        replace H := iF H
        simp only [Option.some.injEq, Prod.mk.injEq] at H
        obtain ⟨rfl, rfl⟩ := H
        have hnb70 := NB110_111.out
        have hnc70 := NB111_110.out
        have hnb71 := NB110_112.out
        have hnc71 := NB112_110.out
        obtain ⟨hcz72_0, hcz72_1, hfz72_0, hfz72_1⟩ := bz BK110
        go_wp2_with (first | ((with_reducible refine gate_callee (f := 122) rfl ?_); refine goesL_ (some 35) rfl rfl Tryz.func122 (by kernel_rfl) rfl #[.agg #[.int .i64 a0_0, .int .i64 a0_1]] rfl ma ?_; (with_reducible refine (v_finite.calls a0_0 a0_1 false _ A61.out).mono ?_); rintro e w73 ⟨rfl, hb⟩; refine ⟨_, rfl, ?_⟩; replace BK110 := bkb BK110 hb; replace BK111 := bkb BK111 hb; replace BK112 := bkb BK112 hb; replace HB := bsq w hb; (try clear hb); have hcz74_0 := bz0 BK110; have hcz74_1 := bz1 BK110; have hfz74_0 := blk_frozen BK110.out 0; have hfz74_1 := blk_frozen BK110.out 1; have hnb75 := NB112_111.out; have hnc75 := NB111_112.out; have hcz76_0 := bz0 BK112; have hcz76_1 := bz1 BK112; have hfz76_0 := blk_frozen BK112.out 0; have hfz76_1 := blk_frozen BK112.out 1))
        refine bodyPost_ret (results_cell_row rfl _ _ gb112 25 #[.int .i64 a0_0, .int .i64 a0_1] (0, 0) _ rfl (by (repeat refine dw ?_); refine blk_put (cs := #[.int .i64 a0_0, .int .i64 0]) ?_ 1 _ rfl; (repeat refine dw ?_); refine blk_put (cs := #[.int .i64 0, .int .i64 0]) ?_ 0 _ rfl; (repeat refine dw ?_); exact BK112.out) Tryz.underlying25 rfl (by kernel_rfl)) rfl ?_
        exact ⟨fe, bbl⟩
def v_rank.f (a0_0 : Int) (a0_1 : Int) : Option (Int) := if a0_0 = 4 then (some 1000000000000001) else (if a0_0 = 5 then (some (-1000000000000001)) else (some a0_1))
theorem v_rank.calls (a0_0 : Int) (a0_1 : Int) (r : Int) (w : World) (h : v_rank.f a0_0 a0_1 = some r) :
  Calls Tryz.prog 130 #[.agg #[.int .i64 a0_0, .int .i64 a0_1]] w fun e w' => e = .returned (.int .i64 r) ∧ Below w.heap.size w w' := by
 have hu25 := Tryz.underlying25
 have HB := Sd.mk (Below.refl w.heap.size w)
 have H : (if a0_0 = 4 then (some 1000000000000001) else (if a0_0 = 5 then (some (-1000000000000001)) else (some a0_1))) = some r := h
 clear h
 by_cases c2 : a0_0 = 4
 ·rw [if_pos c2] at H
  have c2b0 := beq_iff_eq.mpr c2
  have c2b1 := bne_eq_false_iff_eq.mpr c2
  clear c2
  obtain rfl := Option.some.inj H
  go_enter Tryz.func130, Tryz.ntmps130
  go_wp2_with (first | ((with_reducible refine gate_dst (N := 1) rfl ?_); refine bxe (N := 1) (cs := #[.int .i64 a0_0, .int .i64 a0_1]) (t := 25) ?_; intro gb122 hg w3 hbox hb; have BK122 := Sd.mk hbox; have GW122 := bge w hg; have GE122 := bge w hg; replace HB := bsq w hb; clear hb hbox hg; have hcz4_0 := bz0 BK122; have hcz4_1 := bz1 BK122; have hfz4_0 := blk_frozen BK122.out 0; have hfz4_1 := blk_frozen BK122.out 1))
  go_ret
  exact ⟨fe, bbl⟩
 ·rw [if_neg c2] at H
  have c2b0 := beq_eq_false_iff_ne.mpr c2
  have c2b1 := bne_iff_ne.mpr c2
  by_cases c5 : a0_0 = 5
  ·rw [if_pos c5] at H
   have c5b0 := beq_iff_eq.mpr c5
   have c5b1 := bne_eq_false_iff_eq.mpr c5
   clear c5
   obtain rfl := Option.some.inj H
   go_enter Tryz.func130, Tryz.ntmps130
   go_wp2_with (first | ((with_reducible refine gate_dst (N := 1) rfl ?_); refine bxe (N := 1) (cs := #[.int .i64 a0_0, .int .i64 a0_1]) (t := 25) ?_; intro gb122 hg w6 hbox hb; have BK122 := Sd.mk hbox; have GW122 := bge w hg; have GE122 := bge w hg; replace HB := bsq w hb; clear hb hbox hg; have hcz7_0 := bz0 BK122; have hcz7_1 := bz1 BK122; have hfz7_0 := blk_frozen BK122.out 0; have hfz7_1 := blk_frozen BK122.out 1))
   go_ret
   exact ⟨fe, bbl⟩
  ·rw [if_neg c5] at H
   have c5b0 := beq_eq_false_iff_ne.mpr c5
   have c5b1 := bne_iff_ne.mpr c5
   obtain rfl := Option.some.inj H
   go_enter Tryz.func130, Tryz.ntmps130
   go_wp2_with (first | ((with_reducible refine gate_dst (N := 1) rfl ?_); refine bxe (N := 1) (cs := #[.int .i64 a0_0, .int .i64 a0_1]) (t := 25) ?_; intro gb122 hg w8 hbox hb; have BK122 := Sd.mk hbox; have GW122 := bge w hg; have GE122 := bge w hg; replace HB := bsq w hb; clear hb hbox hg; have hcz9_0 := bz0 BK122; have hcz9_1 := bz1 BK122; have hfz9_0 := blk_frozen BK122.out 0; have hfz9_1 := blk_frozen BK122.out 1))
   go_ret
   exact ⟨fe, bbl⟩
def v_sign.f (a0_0 : Int) (a0_1 : Int) : Option (Int) := (v_rank.f a0_0 a0_1).bind fun t124 => (some (mn (mx t124 (-1)) 1))
theorem v_sign.calls (a0_0 : Int) (a0_1 : Int) (r : Int) (w : World) (h : v_sign.f a0_0 a0_1 = some r) :
  Calls Tryz.prog 161 #[.agg #[.int .i64 a0_0, .int .i64 a0_1]] w fun e w' => e = .returned (.int .i64 r) ∧ Below w.heap.size w w' := by
 have hu25 := Tryz.underlying25
 have HB := Sd.mk (Below.refl w.heap.size w)
 have H : ((v_rank.f a0_0 a0_1).bind fun t124 => (some (mn (mx t124 (-1)) 1))) = some r := h
 clear h
 obtain ⟨t124, A2, H⟩ := bnd H
 obtain ⟨ji3, hji3⟩ : ∃ j_ : Int, (mx t124 (-1)) = j_ := ⟨_, rfl⟩
 replace H : (some (mn (ji3) 1)) = some r := by first | (rw [hji3] at H; exact H) | (simp only [hji3] at H ⊢; exact H)
 (try rw [hji3] at A2)
 have hji3_ : (if t124 < (-1) then (-1) else t124) = ji3 := hji3
 obtain ⟨ji4, hji4⟩ : ∃ j_ : Int, (mn (ji3) 1) = j_ := ⟨_, rfl⟩
 replace H : (some ji4) = some r := by first | (rw [hji4] at H; exact H) | (simp only [hji4] at H ⊢; exact H)
 (try rw [hji4] at A2)
 have hji4_ : (if 1 < (ji3) then 1 else (ji3)) = ji4 := hji4
 obtain rfl := Option.some.inj H
 go_enter Tryz.func161, Tryz.ntmps161
 go_wp2_with (first | ((with_reducible refine gate_dst (N := 1) rfl ?_); refine bxe (N := 1) (cs := #[.int .i64 a0_0, .int .i64 a0_1]) (t := 25) ?_; intro gb123 hg w5 hbox hb; have BK123 := Sd.mk hbox; have GW123 := bge w hg; have GE123 := bge w hg; replace HB := bsq w hb; clear hb hbox hg; have hcz6_0 := bz0 BK123; have hcz6_1 := bz1 BK123; have hfz6_0 := blk_frozen BK123.out 0; have hfz6_1 := blk_frozen BK123.out 1) | ((with_reducible refine gate_callee (f := 130) rfl ?_); refine goesL_ (some 4) rfl rfl Tryz.func130 (by kernel_rfl) rfl #[.agg #[.int .i64 a0_0, .int .i64 a0_1]] rfl ma ?_; (with_reducible refine (v_rank.calls a0_0 a0_1 t124 _ A2.out).mono ?_); rintro e w7 ⟨rfl, hb⟩; refine ⟨_, rfl, ?_⟩; replace BK123 := bkb BK123 hb; replace HB := bsq w hb; (try clear hb)))
 go_ret
 exact ⟨by first | rfl | (simp [errW_none, errW_some] <;> rfl) | (simp only [← hji3, ← hji4]; first | rfl | (simp [errW_none, errW_some] <;> rfl)) | (simp [*, errW_none, errW_some] <;> rfl), bbl⟩
def v_back.f (a0 : Int) : Option (Int × Int) := (v_Num.f a0).bind fun bt126 => (some (bt126.1, bt126.2))
theorem v_back.calls (a0 : Int) (r1 : Int) (r2 : Int) (w : World) (h : v_back.f a0 = some (r1, r2)) :
  Calls Tryz.prog 129 #[.int .i64 a0] w fun e w' => e = .returned (.agg #[.int .i64 r1, .int .i64 r2]) ∧ Below w.heap.size w w' := by
 have hu25 := Tryz.underlying25
 have HB := Sd.mk (Below.refl w.heap.size w)
 have H : ((v_Num.f a0).bind fun bt126 => (some (bt126.1, bt126.2))) = some (r1, r2) := h
 clear h
 obtain ⟨⟨t126, t127⟩, A2, H⟩ := bnd H
 replace H : (some (t126, t127)) = some (r1, r2) := H
 simp only [Option.some.injEq, Prod.mk.injEq] at H
 obtain ⟨rfl, rfl⟩ := H
 go_enter Tryz.func129, Tryz.ntmps129
 go_wp2_with (first | ((with_reducible refine gate_dst (N := 2) rfl ?_); refine bxe (N := 2) (cs := #[.int .i64 0, .int .i64 0]) (t := 25) ?_; intro gb125 hg w3 hbox hb; have BK125 := Sd.mk hbox; have GW125 := bge w hg; have GE125 := bge w hg; replace HB := bsq w hb; clear hb hbox hg) | ((with_reducible refine gate_callee (f := 76) rfl ?_); refine goesL_ (some 4) rfl rfl Tryz.func76 (by kernel_rfl) rfl #[.int .i64 a0] rfl ma ?_; (with_reducible refine (v_Num.calls a0 t126 t127 _ A2.out).mono ?_); rintro e w4 ⟨rfl, hb⟩; refine ⟨_, rfl, ?_⟩; replace BK125 := bkb BK125 hb; replace HB := bsq w hb; (try clear hb); have hcz5_0 := bz0 BK125; have hcz5_1 := bz1 BK125; have hfz5_0 := blk_frozen BK125.out 0; have hfz5_1 := blk_frozen BK125.out 1))
 refine bodyPost_ret (results_cell_row rfl _ _ gb125 25 #[.int .i64 t126, .int .i64 t127] (0, 0) _ rfl (by (repeat refine dw ?_); refine blk_put (cs := #[.int .i64 t126, .int .i64 0]) ?_ 1 _ rfl; (repeat refine dw ?_); refine blk_put (cs := #[.int .i64 0, .int .i64 0]) ?_ 0 _ rfl; (repeat refine dw ?_); exact BK125.out) Tryz.underlying25 rfl (by kernel_rfl)) rfl ?_
 exact ⟨fe, bbl⟩
def v_infinite.f (a0 : Int) : Option (Int × Int) := if a0 = 0 then ((v_NaN.f).bind fun bt129 => (some (bt129.1, bt129.2))) else ((v_back.f ((mn (mx a0 (-1)) 1) * 1000000000000001)).bind fun bt131 => (some (bt131.1, bt131.2)))
theorem v_infinite.calls (a0 : Int) (r1 : Int) (r2 : Int) (w : World) (h : v_infinite.f a0 = some (r1, r2)) :
  Calls Tryz.prog 162 #[.int .i64 a0] w fun e w' => e = .returned (.agg #[.int .i64 r1, .int .i64 r2]) ∧ Below w.heap.size w w' := by
 have hu25 := Tryz.underlying25
 have HB := Sd.mk (Below.refl w.heap.size w)
 have H : (if a0 = 0 then ((v_NaN.f).bind fun bt129 => (some (bt129.1, bt129.2))) else ((v_back.f ((mn (mx a0 (-1)) 1) * 1000000000000001)).bind fun bt131 => (some (bt131.1, bt131.2)))) = some (r1, r2) := h
 clear h
 by_cases c2 : a0 = 0
 ·rw [if_pos c2] at H
  have c2b0 := beq_iff_eq.mpr c2
  have c2b1 := bne_eq_false_iff_eq.mpr c2
  clear c2
  obtain ⟨⟨t129, t130⟩, A3, H⟩ := bnd H
  replace H : (some (t129, t130)) = some (r1, r2) := H
  simp only [Option.some.injEq, Prod.mk.injEq] at H
  obtain ⟨rfl, rfl⟩ := H
  go_enter Tryz.func162, Tryz.ntmps162
  go_wp2_with (first | ((with_reducible refine gate_dst (N := 2) rfl ?_); refine bxe (N := 2) (cs := #[.int .i64 0, .int .i64 0]) (t := 25) ?_; intro gb128 hg w4 hbox hb; have BK128 := Sd.mk hbox; have GW128 := bge w hg; have GE128 := bge w hg; replace HB := bsq w hb; clear hb hbox hg) | ((with_reducible refine gate_callee (f := 42) rfl ?_); refine goesL_ (some 5) rfl rfl Tryz.func42 (by kernel_rfl) rfl #[] rfl ma ?_; (with_reducible refine (v_NaN.calls  t129 t130 _ A3.out).mono ?_); rintro e w5 ⟨rfl, hb⟩; refine ⟨_, rfl, ?_⟩; replace BK128 := bkb BK128 hb; replace HB := bsq w hb; (try clear hb); have hcz6_0 := bz0 BK128; have hcz6_1 := bz1 BK128; have hfz6_0 := blk_frozen BK128.out 0; have hfz6_1 := blk_frozen BK128.out 1))
  refine bodyPost_ret (results_cell_row rfl _ _ gb128 25 #[.int .i64 t129, .int .i64 t130] (0, 0) _ rfl (by (repeat refine dw ?_); refine blk_put (cs := #[.int .i64 t129, .int .i64 0]) ?_ 1 _ rfl; (repeat refine dw ?_); refine blk_put (cs := #[.int .i64 0, .int .i64 0]) ?_ 0 _ rfl; (repeat refine dw ?_); exact BK128.out) Tryz.underlying25 rfl (by kernel_rfl)) rfl ?_
  exact ⟨fe, bbl⟩
 ·rw [if_neg c2] at H
  have c2b0 := beq_eq_false_iff_ne.mpr c2
  have c2b1 := bne_iff_ne.mpr c2
  obtain ⟨ji7, hji7⟩ : ∃ j_ : Int, (mx a0 (-1)) = j_ := ⟨_, rfl⟩
  replace H : ((v_back.f ((mn (ji7) 1) * 1000000000000001)).bind fun bt131 => (some (bt131.1, bt131.2))) = some (r1, r2) := by first | (rw [hji7] at H; exact H) | (simp only [hji7] at H ⊢; exact H)
  have hji7_ : (if a0 < (-1) then (-1) else a0) = ji7 := hji7
  obtain ⟨ji8, hji8⟩ : ∃ j_ : Int, (mn (ji7) 1) = j_ := ⟨_, rfl⟩
  replace H : ((v_back.f ((ji8) * 1000000000000001)).bind fun bt131 => (some (bt131.1, bt131.2))) = some (r1, r2) := by first | (rw [hji8] at H; exact H) | (simp only [hji8] at H ⊢; exact H)
  have hji8_ : (if 1 < (ji7) then 1 else (ji7)) = ji8 := hji8
  obtain ⟨⟨t131, t132⟩, A9, H⟩ := bnd H
  replace H : (some (t131, t132)) = some (r1, r2) := H
  simp only [Option.some.injEq, Prod.mk.injEq] at H
  obtain ⟨rfl, rfl⟩ := H
  go_enter Tryz.func162, Tryz.ntmps162
  go_wp2_with (first | ((with_reducible refine gate_dst (N := 2) rfl ?_); refine bxe (N := 2) (cs := #[.int .i64 0, .int .i64 0]) (t := 25) ?_; intro gb128 hg w10 hbox hb; have BK128 := Sd.mk hbox; have GW128 := bge w hg; have GE128 := bge w hg; replace HB := bsq w hb; clear hb hbox hg) | ((with_reducible refine gate_callee (f := 129) rfl ?_); refine goesL_ (some 10) rfl rfl Tryz.func129 (by kernel_rfl) rfl #[.int .i64 ((ji8) * 1000000000000001)] rfl (by (try simp only [List.map_toArray, List.map_cons, List.map_nil]); first | done | (simp only [hji8]; rfl) | rfl | (simp only [List.length_drop, List.length_take]; rfl)) ?_; (with_reducible refine (v_back.calls ((ji8) * 1000000000000001) t131 t132 _ A9.out).mono ?_); rintro e w11 ⟨rfl, hb⟩; refine ⟨_, rfl, ?_⟩; replace BK128 := bkb BK128 hb; replace HB := bsq w hb; (try clear hb); have hcz12_0 := bz0 BK128; have hcz12_1 := bz1 BK128; have hfz12_0 := blk_frozen BK128.out 0; have hfz12_1 := blk_frozen BK128.out 1))
  refine bodyPost_ret (results_cell_row rfl _ _ gb128 25 #[.int .i64 t131, .int .i64 t132] (0, 0) _ rfl (by (repeat refine dw ?_); refine blk_put (cs := #[.int .i64 t131, .int .i64 0]) ?_ 1 _ rfl; (repeat refine dw ?_); refine blk_put (cs := #[.int .i64 0, .int .i64 0]) ?_ 0 _ rfl; (repeat refine dw ?_); exact BK128.out) Tryz.underlying25 rfl (by kernel_rfl)) rfl ?_
  exact ⟨by first | rfl | (simp [errW_none, errW_some] <;> rfl) | (simp only [← hji7, ← hji8]; first | rfl | (simp [errW_none, errW_some] <;> rfl)) | (simp [*, errW_none, errW_some] <;> rfl), bbl⟩
def bits_Mul64.f (a0 : Int) (a1 : Int) : Option (Int × Int) := some (IntKind.u64.wrap ((IntKind.u64.wrap ((IntKind.u64.wrap ((a0 / 4294967296) * (a1 / 4294967296))) + ((IntKind.u64.wrap ((IntKind.u64.wrap ((a0 / 4294967296) * (Go.bits .and .u64 a1 4294967295))) + ((IntKind.u64.wrap ((Go.bits .and .u64 a0 4294967295) * (Go.bits .and .u64 a1 4294967295))) / 4294967296))) / 4294967296))) + ((IntKind.u64.wrap ((Go.bits .and .u64 (IntKind.u64.wrap ((IntKind.u64.wrap ((a0 / 4294967296) * (Go.bits .and .u64 a1 4294967295))) + ((IntKind.u64.wrap ((Go.bits .and .u64 a0 4294967295) * (Go.bits .and .u64 a1 4294967295))) / 4294967296))) 4294967295) + (IntKind.u64.wrap ((Go.bits .and .u64 a0 4294967295) * (a1 / 4294967296))))) / 4294967296)), IntKind.u64.wrap (a0 * a1))
theorem bits_Mul64.calls (a0 : Int) (a1 : Int) (r1 : Int) (r2 : Int) (w : World) (h : bits_Mul64.f a0 a1 = some (r1, r2)) :
  Calls Tryz.prog 163 #[.int .u64 a0, .int .u64 a1] w fun e w' => e = .returned (.tuple #[.int .u64 r1, .int .u64 r2]) ∧ Drawn0 w w' := by
 have H : (some (IntKind.u64.wrap ((IntKind.u64.wrap ((IntKind.u64.wrap ((a0 / 4294967296) * (a1 / 4294967296))) + ((IntKind.u64.wrap ((IntKind.u64.wrap ((a0 / 4294967296) * (Go.bits .and .u64 a1 4294967295))) + ((IntKind.u64.wrap ((Go.bits .and .u64 a0 4294967295) * (Go.bits .and .u64 a1 4294967295))) / 4294967296))) / 4294967296))) + ((IntKind.u64.wrap ((Go.bits .and .u64 (IntKind.u64.wrap ((IntKind.u64.wrap ((a0 / 4294967296) * (Go.bits .and .u64 a1 4294967295))) + ((IntKind.u64.wrap ((Go.bits .and .u64 a0 4294967295) * (Go.bits .and .u64 a1 4294967295))) / 4294967296))) 4294967295) + (IntKind.u64.wrap ((Go.bits .and .u64 a0 4294967295) * (a1 / 4294967296))))) / 4294967296)), IntKind.u64.wrap (a0 * a1))) = some (r1, r2) := h
 clear h
 simp only [Option.some.injEq, Prod.mk.injEq] at H
 obtain ⟨rfl, rfl⟩ := H
 go_enter Tryz.func163, Tryz.ntmps163
 go_wp2
 go_ret2
 exact ⟨ae, by repeat (first | exact Drawn0.refl _ | apply Drawn0.step)⟩
mutual
def v_div.j0 : Nat → Bool → Int → Int → Int → Int → Option (Int × Int)
 | 0, _, _, _, _, _ => none
 | k + 1, x5, x155000, x155001, x156000, x156001 => if x5 = true then ((v_NaN.f).bind fun bt159 => (some (bt159.1, bt159.2))) else ((v_finite.f x156000 x156001).bind fun t161 => (if t161 = true then ((v_finite.f x155000 x155001).bind fun t162 => (if t162 = true then (v_div.j1 k false x155000 x155001 x156000 x156001) else (v_div.j1 k (decide (x156001 < 0)) x155000 x155001 x156000 x156001))) else ((v_Num.f 0).bind fun bt171 => (some (bt171.1, bt171.2)))))
def v_div.j1 : Nat → Bool → Int → Int → Int → Int → Option (Int × Int)
 | 0, _, _, _, _, _ => none
 | k + 1, x20, x155000, x155001, x156000, x156001 => if x20 = true then ((v_rank.f x155000 x155001).bind fun t163 => ((v_back.f (wrap64 (-t163))).bind fun bt164 => (some (bt164.1, bt164.2)))) else ((v_finite.f x155000 x155001).bind fun t166 => (if t166 = true then (if x156001 = 0 then ((v_infinite.f x155001).bind fun bt167 => (some (bt167.1, bt167.2))) else ((v_Num.f (wrap64 (Int.tdiv (wrap64 (x155001 * 1000)) x156001))).bind fun bt169 => (some (bt169.1, bt169.2)))) else (some (x155000, x155001))))
end
def v_div.f (k : Nat) (a0_0 : Int) (a0_1 : Int) (a1_0 : Int) (a1_1 : Int) : Option (Int × Int) := (v_finite.f a0_0 a0_1).bind fun t157 => (if t157 = true then (v_div.j0 k false a0_0 a0_1 a1_0 a1_1) else ((v_finite.f a1_0 a1_1).bind fun t158 => (v_div.j0 k (!t158) a0_0 a0_1 a1_0 a1_1)))
theorem v_div.calls (k : Nat) (a0_0 : Int) (a0_1 : Int) (a1_0 : Int) (a1_1 : Int) (r1 : Int) (r2 : Int) (w : World) (h : v_div.f k a0_0 a0_1 a1_0 a1_1 = some (r1, r2)) :
  Calls Tryz.prog 132 #[.agg #[.int .i64 a0_0, .int .i64 a0_1], .agg #[.int .i64 a1_0, .int .i64 a1_1]] w fun e w' => e = .returned (.agg #[.int .i64 r1, .int .i64 r2]) ∧ Below w.heap.size w w' := by
 have hu25 := Tryz.underlying25
 have HB := Sd.mk (Below.refl w.heap.size w)
 have H : ((v_finite.f a0_0 a0_1).bind fun t157 => (if t157 = true then (v_div.j0 k false a0_0 a0_1 a1_0 a1_1) else ((v_finite.f a1_0 a1_1).bind fun t158 => (v_div.j0 k (!t158) a0_0 a0_1 a1_0 a1_1)))) = some (r1, r2) := h
 clear h
 have HC3 := Sd.mk H
 clear H
 go_enter Tryz.func132, Tryz.ntmps132
 go_upto_region 1 with (first | ((with_reducible refine gate_dst (N := 2) rfl ?_); refine bxe (N := 2) (cs := #[.int .i64 a0_0, .int .i64 a0_1]) (t := 25) ?_; intro gb154 hg w4 hbox hb; have BK154 := Sd.mk hbox; have GW154 := bge w hg; have GE154 := bge w hg; replace HB := bsq w hb; clear hb hbox hg) | ((with_reducible refine gate_dst (N := 3) rfl ?_); refine bxe (N := 3) (cs := #[.int .i64 a1_0, .int .i64 a1_1]) (t := 25) ?_; intro gb155 hg w5 hbox hb; have BK155 := Sd.mk hbox; have GW155 := bge w hg; have GE155 := bge w hg; have NB154_155 := bnl BK154 hg; have NB155_154 := bng BK154 hg; replace BK154 := bkb BK154 hb; replace HB := bsq w hb; clear hb hbox hg) | ((with_reducible refine gate_dst (N := 4) rfl ?_); refine bxe (N := 4) (cs := #[.int .i64 0, .int .i64 0]) (t := 25) ?_; intro gb156 hg w6 hbox hb; have BK156 := Sd.mk hbox; have GW156 := bge w hg; have GE156 := bge w hg; have NB154_156 := bnl BK154 hg; have NB156_154 := bng BK154 hg; have NB155_156 := bnl BK155 hg; have NB156_155 := bng BK155 hg; replace BK154 := bkb BK154 hb; replace BK155 := bkb BK155 hb; replace HB := bsq w hb; clear hb hbox hg))
 (try simp only [Act.put, List.setIfInBounds_toArray, List.set_cons_zero, List.set_cons_succ])
 go_cut [5] (fun v5 wc => ∃ (kq : Nat) (x5_2 : Bool), v5 = .bool x5_2 ∧ Sd (v_div.j0 kq x5_2 a0_0 a0_1 a1_0 a1_1 = some (r1, r2)) ∧ Sd (kq ≤ k) ∧ Sd (wc.heap[gb154]? = some (.cells #[.int .i64 a0_0, .int .i64 a0_1] 25 (0, 0))) ∧ Sd (wc.heap[gb155]? = some (.cells #[.int .i64 a1_0, .int .i64 a1_1] 25 (0, 0))) ∧ Sd (wc.heap[gb156]? = some (.cells #[.int .i64 0, .int .i64 0] 25 (0, 0))) ∧ Sd (Below w.heap.size w wc))
 case first =>
  have H := HC3.out
  clear HC3
  obtain ⟨t157, A7, H⟩ := bnd H
  by_cases c8 : t157 = true
  ·subst c8
   replace H := iT H
   have H' := Sd.mk H
   clear H
   have hnb9 := NB154_155.out
   have hnc9 := NB155_154.out
   have hnb10 := NB154_156.out
   have hnc10 := NB156_154.out
   obtain ⟨hcz11_0, hcz11_1, hfz11_0, hfz11_1⟩ := bz BK154
   go_wp2_with (first | ((with_reducible refine gate_callee (f := 122) rfl ?_); refine goesL_ (some 7) rfl rfl Tryz.func122 (by kernel_rfl) rfl #[.agg #[.int .i64 a0_0, .int .i64 a0_1]] rfl ma ?_; (with_reducible refine (v_finite.calls a0_0 a0_1 true _ A7.out).mono ?_); rintro e w12 ⟨rfl, hb⟩; refine ⟨_, rfl, ?_⟩; replace BK154 := bkb BK154 hb; replace BK155 := bkb BK155 hb; replace BK156 := bkb BK156 hb; replace HB := bsq w hb; (try clear hb)))
   go_meet
   case rel => exact ⟨_, (false), ae, H', ⟨by first | omega | exact Nat.le_refl _⟩, fwK BK154, fwK BK155, fwK BK156, ⟨bbl⟩⟩
  ·replace c8 := Bool.eq_false_iff.mpr c8
   subst c8
   replace H := iF H
   obtain ⟨t158, A13, H⟩ := bnd H
   have H' := Sd.mk H
   clear H
   have hnb14 := NB154_155.out
   have hnc14 := NB155_154.out
   have hnb15 := NB154_156.out
   have hnc15 := NB156_154.out
   obtain ⟨hcz16_0, hcz16_1, hfz16_0, hfz16_1⟩ := bz BK154
   go_wp2_with (first | ((with_reducible refine gate_callee (f := 122) rfl ?_); refine goesL_ (some 7) rfl rfl Tryz.func122 (by kernel_rfl) rfl #[.agg #[.int .i64 a0_0, .int .i64 a0_1]] rfl ma ?_; (with_reducible refine (v_finite.calls a0_0 a0_1 false _ A7.out).mono ?_); rintro e w17 ⟨rfl, hb⟩; refine ⟨_, rfl, ?_⟩; replace BK154 := bkb BK154 hb; replace BK155 := bkb BK155 hb; replace BK156 := bkb BK156 hb; replace HB := bsq w hb; (try clear hb); have hnb18 := NB155_156.out; have hnc18 := NB156_155.out; have hcz19_0 := bz0 BK155; have hcz19_1 := bz1 BK155; have hfz19_0 := blk_frozen BK155.out 0; have hfz19_1 := blk_frozen BK155.out 1) | (go_at_call 122; (with_reducible refine (v_finite.calls a1_0 a1_1 t158 _ A13.out).mono ?_); rintro e w20 ⟨rfl, hb⟩; replace BK154 := bkb BK154 hb; replace BK155 := bkb BK155 hb; replace BK156 := bkb BK156 hb; replace HB := bsq w hb; (try clear hb)))
   go_meet
   case rel => exact ⟨_, (!t158), ae, H', ⟨by first | omega | exact Nat.le_refl _⟩, fwK BK154, fwK BK155, fwK BK156, ⟨bbl⟩⟩
 case rest =>
  clear HC3
  obtain ⟨kq, x5_2, rfl, HA, HJ2, BK154, BK155, BK156, HB⟩ := hcut
  cases kq with
  | zero => exact absurd HA.out (by simp [v_div.j0])
  | succ kj2 =>
   have H := HA.out
   clear HA
   simp only [v_div.j0] at H
   by_cases c21 : x5_2 = true
   ·subst c21
    replace H := iT H
    obtain ⟨⟨t159, t160⟩, A22, H⟩ := bnd H
    replace H : (some (t159, t160)) = some (r1, r2) := H
    simp only [Option.some.injEq, Prod.mk.injEq] at H
    obtain ⟨rfl, rfl⟩ := H
    go_wp2_with (first | ((with_reducible refine gate_callee (f := 42) rfl ?_); refine goesL_ (some 14) rfl rfl Tryz.func42 (by kernel_rfl) rfl #[] rfl ma ?_; (with_reducible refine (v_NaN.calls  t159 t160 _ A22.out).mono ?_); rintro e w23 ⟨rfl, hb⟩; refine ⟨_, rfl, ?_⟩; replace BK154 := bkb BK154 hb; replace BK155 := bkb BK155 hb; replace BK156 := bkb BK156 hb; replace HB := bsq w hb; (try clear hb); have hnb24 := NB156_154.out; have hnc24 := NB154_156.out; have hnb25 := NB156_155.out; have hnc25 := NB155_156.out; have hcz26_0 := bz0 BK156; have hcz26_1 := bz1 BK156; have hfz26_0 := blk_frozen BK156.out 0; have hfz26_1 := blk_frozen BK156.out 1))
    refine bodyPost_ret (results_cell_row rfl _ _ gb156 25 #[.int .i64 t159, .int .i64 t160] (0, 0) _ rfl (by (repeat refine dw ?_); refine blk_put (cs := #[.int .i64 t159, .int .i64 0]) ?_ 1 _ rfl; (repeat refine dw ?_); refine blk_put (cs := #[.int .i64 0, .int .i64 0]) ?_ 0 _ rfl; (repeat refine dw ?_); exact BK156.out) Tryz.underlying25 rfl (by kernel_rfl)) rfl ?_
    exact ⟨fe, bbl⟩
   ·replace c21 := Bool.eq_false_iff.mpr c21
    subst c21
    replace H := iF H
    obtain ⟨t161, A27, H⟩ := bnd H
    by_cases c28 : t161 = true
    ·subst c28
     replace H := iT H
     have HC29 := Sd.mk H
     clear H
     have hnb30 := NB155_154.out
     have hnc30 := NB154_155.out
     have hnb31 := NB155_156.out
     have hnc31 := NB156_155.out
     obtain ⟨hcz32_0, hcz32_1, hfz32_0, hfz32_1⟩ := bz BK155
     go_upto_region 5 with (first | ((with_reducible refine gate_callee (f := 122) rfl ?_); refine goesL_ (some 17) rfl rfl Tryz.func122 (by kernel_rfl) rfl #[.agg #[.int .i64 a1_0, .int .i64 a1_1]] rfl ma ?_; (with_reducible refine (v_finite.calls a1_0 a1_1 true _ A27.out).mono ?_); rintro e w33 ⟨rfl, hb⟩; refine ⟨_, rfl, ?_⟩; replace BK154 := bkb BK154 hb; replace BK155 := bkb BK155 hb; replace BK156 := bkb BK156 hb; replace HB := bsq w hb; (try clear hb)))
     (try simp only [Act.put, List.setIfInBounds_toArray, List.set_cons_zero, List.set_cons_succ])
     go_cut [20] (fun v20 wc => ∃ (kq : Nat) (x20_28 : Bool), v20 = .bool x20_28 ∧ Sd (v_div.j1 kq x20_28 a0_0 a0_1 a1_0 a1_1 = some (r1, r2)) ∧ Sd (kq ≤ kj2) ∧ Sd (wc.heap[gb154]? = some (.cells #[.int .i64 a0_0, .int .i64 a0_1] 25 (0, 0))) ∧ Sd (wc.heap[gb155]? = some (.cells #[.int .i64 a1_0, .int .i64 a1_1] 25 (0, 0))) ∧ Sd (wc.heap[gb156]? = some (.cells #[.int .i64 0, .int .i64 0] 25 (0, 0))) ∧ Sd (Below w.heap.size w wc))
     case first =>
      have H := HC29.out
      clear HC29
      obtain ⟨t162, A34, H⟩ := bnd H
      by_cases c35 : t162 = true
      ·subst c35
       replace H := iT H
       have H' := Sd.mk H
       clear H
       have hnb36 := NB154_155.out
       have hnc36 := NB155_154.out
       have hnb37 := NB154_156.out
       have hnc37 := NB156_154.out
       obtain ⟨hcz38_0, hcz38_1, hfz38_0, hfz38_1⟩ := bz BK154
       go_wp2_with (first | ((with_reducible refine gate_callee (f := 122) rfl ?_); refine goesL_ (some 22) rfl rfl Tryz.func122 (by kernel_rfl) rfl #[.agg #[.int .i64 a0_0, .int .i64 a0_1]] rfl ma ?_; (with_reducible refine (v_finite.calls a0_0 a0_1 true _ A34.out).mono ?_); rintro e w39 ⟨rfl, hb⟩; refine ⟨_, rfl, ?_⟩; replace BK154 := bkb BK154 hb; replace BK155 := bkb BK155 hb; replace BK156 := bkb BK156 hb; replace HB := bsq w hb; (try clear hb)))
       go_meet
       case rel => exact ⟨_, (false), ae, H', ⟨by have := HJ2.out; first | omega | exact Nat.le_refl _⟩, fwK BK154, fwK BK155, fwK BK156, ⟨bbl⟩⟩
      ·replace c35 := Bool.eq_false_iff.mpr c35
       subst c35
       replace H := iF H
       have H' := Sd.mk H
       clear H
       have hnb40 := NB154_155.out
       have hnc40 := NB155_154.out
       have hnb41 := NB154_156.out
       have hnc41 := NB156_154.out
       obtain ⟨hcz42_0, hcz42_1, hfz42_0, hfz42_1⟩ := bz BK154
       go_wp2_with (first | ((with_reducible refine gate_callee (f := 122) rfl ?_); refine goesL_ (some 22) rfl rfl Tryz.func122 (by kernel_rfl) rfl #[.agg #[.int .i64 a0_0, .int .i64 a0_1]] rfl ma ?_; (with_reducible refine (v_finite.calls a0_0 a0_1 false _ A34.out).mono ?_); rintro e w43 ⟨rfl, hb⟩; refine ⟨_, rfl, ?_⟩; replace BK154 := bkb BK154 hb; replace BK155 := bkb BK155 hb; replace BK156 := bkb BK156 hb; replace HB := bsq w hb; (try clear hb); have hnb44 := NB155_156.out; have hnc44 := NB156_155.out; have hcz45_0 := bz0 BK155; have hcz45_1 := bz1 BK155; have hfz45_0 := blk_frozen BK155.out 0; have hfz45_1 := blk_frozen BK155.out 1))
       go_meet
       case rel => exact ⟨_, (decide (a1_1 < 0)), ae, H', ⟨by have := HJ2.out; first | omega | exact Nat.le_refl _⟩, fwK BK154, fwK BK155, fwK BK156, ⟨bbl⟩⟩
     case rest =>
      clear HC29
      obtain ⟨kq, x20_28, rfl, HA, HJ28, BK154, BK155, BK156, HB⟩ := hcut
      cases kq with
      | zero => exact absurd HA.out (by simp [v_div.j1])
      | succ kj28 =>
       have H := HA.out
       clear HA
       simp only [v_div.j1] at H
       by_cases c46 : x20_28 = true
       ·subst c46
        replace H := iT H
        obtain ⟨t163, A47, H⟩ := bnd H
        obtain ⟨⟨t164, t165⟩, A48, H⟩ := bnd H
        replace H : (some (t164, t165)) = some (r1, r2) := H
        simp only [Option.some.injEq, Prod.mk.injEq] at H
        obtain ⟨rfl, rfl⟩ := H
        have hnb49 := NB154_155.out
        have hnc49 := NB155_154.out
        have hnb50 := NB154_156.out
        have hnc50 := NB156_154.out
        obtain ⟨hcz51_0, hcz51_1, hfz51_0, hfz51_1⟩ := bz BK154
        go_wp2_with (first | ((with_reducible refine gate_callee (f := 130) rfl ?_); refine goesL_ (some 30) rfl rfl Tryz.func130 (by kernel_rfl) rfl #[.agg #[.int .i64 a0_0, .int .i64 a0_1]] rfl ma ?_; (with_reducible refine (v_rank.calls a0_0 a0_1 t163 _ A47.out).mono ?_); rintro e w52 ⟨rfl, hb⟩; refine ⟨_, rfl, ?_⟩; replace BK154 := bkb BK154 hb; replace BK155 := bkb BK155 hb; replace BK156 := bkb BK156 hb; replace HB := bsq w hb; (try clear hb)) | ((with_reducible refine gate_callee (f := 129) rfl ?_); refine goesL_ (some 32) rfl rfl Tryz.func129 (by kernel_rfl) rfl #[.int .i64 (wrap64 (-t163))] rfl ma ?_; (with_reducible refine (v_back.calls (wrap64 (-t163)) t164 t165 _ A48.out).mono ?_); rintro e w53 ⟨rfl, hb⟩; refine ⟨_, rfl, ?_⟩; replace BK154 := bkb BK154 hb; replace BK155 := bkb BK155 hb; replace BK156 := bkb BK156 hb; replace HB := bsq w hb; (try clear hb); have hnb54 := NB156_155.out; have hnc54 := NB155_156.out; have hcz55_0 := bz0 BK156; have hcz55_1 := bz1 BK156; have hfz55_0 := blk_frozen BK156.out 0; have hfz55_1 := blk_frozen BK156.out 1))
        refine bodyPost_ret (results_cell_row rfl _ _ gb156 25 #[.int .i64 t164, .int .i64 t165] (0, 0) _ rfl (by (repeat refine dw ?_); refine blk_put (cs := #[.int .i64 t164, .int .i64 0]) ?_ 1 _ rfl; (repeat refine dw ?_); refine blk_put (cs := #[.int .i64 0, .int .i64 0]) ?_ 0 _ rfl; (repeat refine dw ?_); exact BK156.out) Tryz.underlying25 rfl (by kernel_rfl)) rfl ?_
        exact ⟨fe, bbl⟩
       ·replace c46 := Bool.eq_false_iff.mpr c46
        subst c46
        replace H := iF H
        obtain ⟨t166, A56, H⟩ := bnd H
        by_cases c57 : t166 = true
        ·subst c57
         replace H := iT H
         by_cases c58 : a1_1 = 0
         ·rw [if_pos c58] at H
          have c58b0 := beq_iff_eq.mpr c58
          have c58b1 := bne_eq_false_iff_eq.mpr c58
          clear c58
          obtain ⟨⟨t167, t168⟩, A59, H⟩ := bnd H
          replace H : (some (t167, t168)) = some (r1, r2) := H
          simp only [Option.some.injEq, Prod.mk.injEq] at H
          obtain ⟨rfl, rfl⟩ := H
          have hnb60 := NB154_155.out
          have hnc60 := NB155_154.out
          have hnb61 := NB154_156.out
          have hnc61 := NB156_154.out
          obtain ⟨hcz62_0, hcz62_1, hfz62_0, hfz62_1⟩ := bz BK154
          go_wp2_with (first | ((with_reducible refine gate_callee (f := 122) rfl ?_); refine goesL_ (some 35) rfl rfl Tryz.func122 (by kernel_rfl) rfl #[.agg #[.int .i64 a0_0, .int .i64 a0_1]] rfl ma ?_; (with_reducible refine (v_finite.calls a0_0 a0_1 true _ A56.out).mono ?_); rintro e w63 ⟨rfl, hb⟩; refine ⟨_, rfl, ?_⟩; replace BK154 := bkb BK154 hb; replace BK155 := bkb BK155 hb; replace BK156 := bkb BK156 hb; replace HB := bsq w hb; (try clear hb); have hnb64 := NB155_156.out; have hnc64 := NB156_155.out; have hcz65_0 := bz0 BK155; have hcz65_1 := bz1 BK155; have hfz65_0 := blk_frozen BK155.out 0; have hfz65_1 := blk_frozen BK155.out 1; have hcz66_0 := bz0 BK154; have hcz66_1 := bz1 BK154; have hfz66_0 := blk_frozen BK154.out 0; have hfz66_1 := blk_frozen BK154.out 1) | ((with_reducible refine gate_callee (f := 162) rfl ?_); refine goesL_ (some 44) rfl rfl Tryz.func162 (by kernel_rfl) rfl #[.int .i64 a0_1] rfl ma ?_; (with_reducible refine (v_infinite.calls a0_1 t167 t168 _ A59.out).mono ?_); rintro e w67 ⟨rfl, hb⟩; refine ⟨_, rfl, ?_⟩; replace BK154 := bkb BK154 hb; replace BK155 := bkb BK155 hb; replace BK156 := bkb BK156 hb; replace HB := bsq w hb; (try clear hb); have hcz68_0 := bz0 BK156; have hcz68_1 := bz1 BK156; have hfz68_0 := blk_frozen BK156.out 0; have hfz68_1 := blk_frozen BK156.out 1))
          refine bodyPost_ret (results_cell_row rfl _ _ gb156 25 #[.int .i64 t167, .int .i64 t168] (0, 0) _ rfl (by (repeat refine dw ?_); refine blk_put (cs := #[.int .i64 t167, .int .i64 0]) ?_ 1 _ rfl; (repeat refine dw ?_); refine blk_put (cs := #[.int .i64 0, .int .i64 0]) ?_ 0 _ rfl; (repeat refine dw ?_); exact BK156.out) Tryz.underlying25 rfl (by kernel_rfl)) rfl ?_
          exact ⟨fe, bbl⟩
         ·rw [if_neg c58] at H
          have c58b0 := beq_eq_false_iff_ne.mpr c58
          have c58b1 := bne_iff_ne.mpr c58
          obtain ⟨⟨t169, t170⟩, A69, H⟩ := bnd H
          replace H : (some (t169, t170)) = some (r1, r2) := H
          simp only [Option.some.injEq, Prod.mk.injEq] at H
          obtain ⟨rfl, rfl⟩ := H
          have hnb70 := NB154_155.out
          have hnc70 := NB155_154.out
          have hnb71 := NB154_156.out
          have hnc71 := NB156_154.out
          obtain ⟨hcz72_0, hcz72_1, hfz72_0, hfz72_1⟩ := bz BK154
          go_wp2_with (first | ((with_reducible refine gate_callee (f := 122) rfl ?_); refine goesL_ (some 35) rfl rfl Tryz.func122 (by kernel_rfl) rfl #[.agg #[.int .i64 a0_0, .int .i64 a0_1]] rfl ma ?_; (with_reducible refine (v_finite.calls a0_0 a0_1 true _ A56.out).mono ?_); rintro e w73 ⟨rfl, hb⟩; refine ⟨_, rfl, ?_⟩; replace BK154 := bkb BK154 hb; replace BK155 := bkb BK155 hb; replace BK156 := bkb BK156 hb; replace HB := bsq w hb; (try clear hb); have hnb74 := NB155_156.out; have hnc74 := NB156_155.out; have hcz75_0 := bz0 BK155; have hcz75_1 := bz1 BK155; have hfz75_0 := blk_frozen BK155.out 0; have hfz75_1 := blk_frozen BK155.out 1; have hcz76_0 := bz0 BK154; have hcz76_1 := bz1 BK154; have hfz76_0 := blk_frozen BK154.out 0; have hfz76_1 := blk_frozen BK154.out 1) | ((with_reducible refine gate_callee (f := 76) rfl ?_); refine goesL_ (some 51) rfl rfl Tryz.func76 (by kernel_rfl) rfl #[.int .i64 (wrap64 (Int.tdiv (wrap64 (a0_1 * 1000)) a1_1))] rfl ma ?_; (with_reducible refine (v_Num.calls (wrap64 (Int.tdiv (wrap64 (a0_1 * 1000)) a1_1)) t169 t170 _ A69.out).mono ?_); rintro e w77 ⟨rfl, hb⟩; refine ⟨_, rfl, ?_⟩; replace BK154 := bkb BK154 hb; replace BK155 := bkb BK155 hb; replace BK156 := bkb BK156 hb; replace HB := bsq w hb; (try clear hb); have hcz78_0 := bz0 BK156; have hcz78_1 := bz1 BK156; have hfz78_0 := blk_frozen BK156.out 0; have hfz78_1 := blk_frozen BK156.out 1))
          refine bodyPost_ret (results_cell_row rfl _ _ gb156 25 #[.int .i64 t169, .int .i64 t170] (0, 0) _ rfl (by (repeat refine dw ?_); refine blk_put (cs := #[.int .i64 t169, .int .i64 0]) ?_ 1 _ rfl; (repeat refine dw ?_); refine blk_put (cs := #[.int .i64 0, .int .i64 0]) ?_ 0 _ rfl; (repeat refine dw ?_); exact BK156.out) Tryz.underlying25 rfl (by kernel_rfl)) rfl ?_
          exact ⟨fe, bbl⟩
        ·replace c57 := Bool.eq_false_iff.mpr c57
         subst c57
         replace H := iF H
         simp only [Option.some.injEq, Prod.mk.injEq] at H
         obtain ⟨rfl, rfl⟩ := H
         have hnb79 := NB154_155.out
         have hnc79 := NB155_154.out
         have hnb80 := NB154_156.out
         have hnc80 := NB156_154.out
         obtain ⟨hcz81_0, hcz81_1, hfz81_0, hfz81_1⟩ := bz BK154
         go_wp2_with (first | ((with_reducible refine gate_callee (f := 122) rfl ?_); refine goesL_ (some 35) rfl rfl Tryz.func122 (by kernel_rfl) rfl #[.agg #[.int .i64 a0_0, .int .i64 a0_1]] rfl ma ?_; (with_reducible refine (v_finite.calls a0_0 a0_1 false _ A56.out).mono ?_); rintro e w82 ⟨rfl, hb⟩; refine ⟨_, rfl, ?_⟩; replace BK154 := bkb BK154 hb; replace BK155 := bkb BK155 hb; replace BK156 := bkb BK156 hb; replace HB := bsq w hb; (try clear hb); have hcz83_0 := bz0 BK154; have hcz83_1 := bz1 BK154; have hfz83_0 := blk_frozen BK154.out 0; have hfz83_1 := blk_frozen BK154.out 1; have hnb84 := NB156_155.out; have hnc84 := NB155_156.out; have hcz85_0 := bz0 BK156; have hcz85_1 := bz1 BK156; have hfz85_0 := blk_frozen BK156.out 0; have hfz85_1 := blk_frozen BK156.out 1))
         refine bodyPost_ret (results_cell_row rfl _ _ gb156 25 #[.int .i64 a0_0, .int .i64 a0_1] (0, 0) _ rfl (by (repeat refine dw ?_); refine blk_put (cs := #[.int .i64 a0_0, .int .i64 0]) ?_ 1 _ rfl; (repeat refine dw ?_); refine blk_put (cs := #[.int .i64 0, .int .i64 0]) ?_ 0 _ rfl; (repeat refine dw ?_); exact BK156.out) Tryz.underlying25 rfl (by kernel_rfl)) rfl ?_
         exact ⟨fe, bbl⟩
    ·replace c28 := Bool.eq_false_iff.mpr c28
     subst c28
     replace H := iF H
     obtain ⟨⟨t171, t172⟩, A86, H⟩ := bnd H
     replace H : (some (t171, t172)) = some (r1, r2) := H
     simp only [Option.some.injEq, Prod.mk.injEq] at H
     obtain ⟨rfl, rfl⟩ := H
     have hnb87 := NB155_154.out
     have hnc87 := NB154_155.out
     have hnb88 := NB155_156.out
     have hnc88 := NB156_155.out
     obtain ⟨hcz89_0, hcz89_1, hfz89_0, hfz89_1⟩ := bz BK155
     go_wp2_with (first | ((with_reducible refine gate_callee (f := 122) rfl ?_); refine goesL_ (some 17) rfl rfl Tryz.func122 (by kernel_rfl) rfl #[.agg #[.int .i64 a1_0, .int .i64 a1_1]] rfl ma ?_; (with_reducible refine (v_finite.calls a1_0 a1_1 false _ A27.out).mono ?_); rintro e w90 ⟨rfl, hb⟩; refine ⟨_, rfl, ?_⟩; replace BK154 := bkb BK154 hb; replace BK155 := bkb BK155 hb; replace BK156 := bkb BK156 hb; replace HB := bsq w hb; (try clear hb)) | ((with_reducible refine gate_callee (f := 76) rfl ?_); refine goesL_ (some 19) rfl rfl Tryz.func76 (by kernel_rfl) rfl #[.int .i64 0] rfl ma ?_; (with_reducible refine (v_Num.calls 0 t171 t172 _ A86.out).mono ?_); rintro e w91 ⟨rfl, hb⟩; refine ⟨_, rfl, ?_⟩; replace BK154 := bkb BK154 hb; replace BK155 := bkb BK155 hb; replace BK156 := bkb BK156 hb; replace HB := bsq w hb; (try clear hb); have hnb92 := NB156_154.out; have hnc92 := NB154_156.out; have hcz93_0 := bz0 BK156; have hcz93_1 := bz1 BK156; have hfz93_0 := blk_frozen BK156.out 0; have hfz93_1 := blk_frozen BK156.out 1))
     refine bodyPost_ret (results_cell_row rfl _ _ gb156 25 #[.int .i64 t171, .int .i64 t172] (0, 0) _ rfl (by (repeat refine dw ?_); refine blk_put (cs := #[.int .i64 t171, .int .i64 0]) ?_ 1 _ rfl; (repeat refine dw ?_); refine blk_put (cs := #[.int .i64 0, .int .i64 0]) ?_ 0 _ rfl; (repeat refine dw ?_); exact BK156.out) Tryz.underlying25 rfl (by kernel_rfl)) rfl ?_
     exact ⟨fe, bbl⟩
def v_True.f (a0_0 : Int) (a0_1 : Int) : Option (Bool) := if a0_0 = 2 then (some false) else (if a0_0 = 0 then (some false) else (if a0_0 = 1 then (some (a0_1 != 0)) else (some true)))
theorem v_True.calls (a0_0 : Int) (a0_1 : Int) (r : Bool) (w : World) (h : v_True.f a0_0 a0_1 = some r) :
  Calls Tryz.prog 117 #[.agg #[.int .i64 a0_0, .int .i64 a0_1]] w fun e w' => e = .returned (.bool r) ∧ Below w.heap.size w w' := by
 have hu25 := Tryz.underlying25
 have HB := Sd.mk (Below.refl w.heap.size w)
 have H : (if a0_0 = 2 then (some false) else (if a0_0 = 0 then (some false) else (if a0_0 = 1 then (some (a0_1 != 0)) else (some true)))) = some r := h
 clear h
 by_cases c2 : a0_0 = 2
 ·rw [if_pos c2] at H
  have c2b0 := beq_iff_eq.mpr c2
  have c2b1 := bne_eq_false_iff_eq.mpr c2
  clear c2
  obtain rfl := Option.some.inj H
  go_enter Tryz.func117, Tryz.ntmps117
  go_wp2_with (first | ((with_reducible refine gate_dst (N := 1) rfl ?_); refine bxe (N := 1) (cs := #[.int .i64 a0_0, .int .i64 a0_1]) (t := 25) ?_; intro gb173 hg w3 hbox hb; have BK173 := Sd.mk hbox; have GW173 := bge w hg; have GE173 := bge w hg; replace HB := bsq w hb; clear hb hbox hg; have hcz4_0 := bz0 BK173; have hcz4_1 := bz1 BK173; have hfz4_0 := blk_frozen BK173.out 0; have hfz4_1 := blk_frozen BK173.out 1))
  go_ret
  exact ⟨fe, bbl⟩
 ·rw [if_neg c2] at H
  have c2b0 := beq_eq_false_iff_ne.mpr c2
  have c2b1 := bne_iff_ne.mpr c2
  by_cases c5 : a0_0 = 0
  ·rw [if_pos c5] at H
   have c5b0 := beq_iff_eq.mpr c5
   have c5b1 := bne_eq_false_iff_eq.mpr c5
   clear c5
   obtain rfl := Option.some.inj H
   go_enter Tryz.func117, Tryz.ntmps117
   go_wp2_with (first | ((with_reducible refine gate_dst (N := 1) rfl ?_); refine bxe (N := 1) (cs := #[.int .i64 a0_0, .int .i64 a0_1]) (t := 25) ?_; intro gb173 hg w6 hbox hb; have BK173 := Sd.mk hbox; have GW173 := bge w hg; have GE173 := bge w hg; replace HB := bsq w hb; clear hb hbox hg; have hcz7_0 := bz0 BK173; have hcz7_1 := bz1 BK173; have hfz7_0 := blk_frozen BK173.out 0; have hfz7_1 := blk_frozen BK173.out 1))
   go_ret
   exact ⟨fe, bbl⟩
  ·rw [if_neg c5] at H
   have c5b0 := beq_eq_false_iff_ne.mpr c5
   have c5b1 := bne_iff_ne.mpr c5
   by_cases c8 : a0_0 = 1
   ·rw [if_pos c8] at H
    have c8b0 := beq_iff_eq.mpr c8
    have c8b1 := bne_eq_false_iff_eq.mpr c8
    clear c8
    obtain rfl := Option.some.inj H
    go_enter Tryz.func117, Tryz.ntmps117
    go_wp2_with (first | ((with_reducible refine gate_dst (N := 1) rfl ?_); refine bxe (N := 1) (cs := #[.int .i64 a0_0, .int .i64 a0_1]) (t := 25) ?_; intro gb173 hg w9 hbox hb; have BK173 := Sd.mk hbox; have GW173 := bge w hg; have GE173 := bge w hg; replace HB := bsq w hb; clear hb hbox hg; have hcz10_0 := bz0 BK173; have hcz10_1 := bz1 BK173; have hfz10_0 := blk_frozen BK173.out 0; have hfz10_1 := blk_frozen BK173.out 1))
    go_ret
    exact ⟨fe, bbl⟩
   ·rw [if_neg c8] at H
    have c8b0 := beq_eq_false_iff_ne.mpr c8
    have c8b1 := bne_iff_ne.mpr c8
    obtain rfl := Option.some.inj H
    go_enter Tryz.func117, Tryz.ntmps117
    go_wp2_with (first | ((with_reducible refine gate_dst (N := 1) rfl ?_); refine bxe (N := 1) (cs := #[.int .i64 a0_0, .int .i64 a0_1]) (t := 25) ?_; intro gb173 hg w11 hbox hb; have BK173 := Sd.mk hbox; have GW173 := bge w hg; have GE173 := bge w hg; replace HB := bsq w hb; clear hb hbox hg; have hcz12_0 := bz0 BK173; have hcz12_1 := bz1 BK173; have hfz12_0 := blk_frozen BK173.out 0; have hfz12_1 := blk_frozen BK173.out 1))
    go_ret
    exact ⟨fe, bbl⟩
def v_ones_1.f (a0 : Int) : Option (Int) := some (wrap64 (-a0))
theorem v_ones_1.calls (a0 : Int) (r : Int) (w : World) (h : v_ones_1.f a0 = some r) :
  Calls Tryz.prog 119 #[.int .i64 a0] w fun e w' => e = .returned (.int .i64 r) ∧ Drawn0 w w' := by
 have H : (some (wrap64 (-a0))) = some r := h
 clear h
 obtain rfl := Option.some.inj H
 go_enter Tryz.func119, Tryz.ntmps119
 go_wp2
 go_ret
 exact ⟨ae, by repeat (first | exact Drawn0.refl _ | apply Drawn0.step)⟩
def v_ones_2.f (a0 : Int) : Option (Int) := some (mx a0 (wrap64 (-a0)))
theorem v_ones_2.calls (a0 : Int) (r : Int) (w : World) (h : v_ones_2.f a0 = some r) :
  Calls Tryz.prog 120 #[.int .i64 a0] w fun e w' => e = .returned (.int .i64 r) ∧ Below w.heap.size w w' := by
 have HB := Sd.mk (Below.refl w.heap.size w)
 have H : (some (mx a0 (wrap64 (-a0)))) = some r := h
 clear h
 obtain ⟨ji2, hji2⟩ : ∃ j_ : Int, (mx a0 (wrap64 (-a0))) = j_ := ⟨_, rfl⟩
 replace H : (some ji2) = some r := by first | (rw [hji2] at H; exact H) | (simp only [hji2] at H ⊢; exact H)
 have hji2_ : (if a0 < (wrap64 (-a0)) then (wrap64 (-a0)) else a0) = ji2 := hji2
 obtain rfl := Option.some.inj H
 go_enter Tryz.func120, Tryz.ntmps120
 go_wp2
 go_ret
 exact ⟨by first | rfl | (simp [errW_none, errW_some] <;> rfl) | (simp only [← hji2]; first | rfl | (simp [errW_none, errW_some] <;> rfl)) | (simp [*, errW_none, errW_some] <;> rfl), bbl⟩
def v_ones_3.f (a0_0 : Int) (a0_1 : Int) : Option (Int × Int) := (v_finite.f a0_0 a0_1).bind fun t176 => (if t176 = true then ((v_Num.f (wrap64 (a0_1 - (Int.tmod (wrap64 ((Int.tmod a0_1 1000) + 1000)) 1000)))).bind fun bt177 => (some (bt177.1, bt177.2))) else (some (a0_0, a0_1)))
theorem v_ones_3.calls (a0_0 : Int) (a0_1 : Int) (r1 : Int) (r2 : Int) (w : World) (h : v_ones_3.f a0_0 a0_1 = some (r1, r2)) :
  Calls Tryz.prog 121 #[.agg #[.int .i64 a0_0, .int .i64 a0_1]] w fun e w' => e = .returned (.agg #[.int .i64 r1, .int .i64 r2]) ∧ Below w.heap.size w w' := by
 have hu25 := Tryz.underlying25
 have HB := Sd.mk (Below.refl w.heap.size w)
 have H : ((v_finite.f a0_0 a0_1).bind fun t176 => (if t176 = true then ((v_Num.f (wrap64 (a0_1 - (Int.tmod (wrap64 ((Int.tmod a0_1 1000) + 1000)) 1000)))).bind fun bt177 => (some (bt177.1, bt177.2))) else (some (a0_0, a0_1)))) = some (r1, r2) := h
 clear h
 obtain ⟨t176, A2, H⟩ := bnd H
 by_cases c3 : t176 = true
 ·subst c3
  replace H := iT H
  obtain ⟨⟨t177, t178⟩, A4, H⟩ := bnd H
  replace H : (some (t177, t178)) = some (r1, r2) := H
  simp only [Option.some.injEq, Prod.mk.injEq] at H
  obtain ⟨rfl, rfl⟩ := H
  go_enter Tryz.func121, Tryz.ntmps121
  go_wp2_with (first | ((with_reducible refine gate_dst (N := 1) rfl ?_); refine bxe (N := 1) (cs := #[.int .i64 a0_0, .int .i64 a0_1]) (t := 25) ?_; intro gb174 hg w5 hbox hb; have BK174 := Sd.mk hbox; have GW174 := bge w hg; have GE174 := bge w hg; replace HB := bsq w hb; clear hb hbox hg) | ((with_reducible refine gate_dst (N := 2) rfl ?_); refine bxe (N := 2) (cs := #[.int .i64 0, .int .i64 0]) (t := 25) ?_; intro gb175 hg w6 hbox hb; have BK175 := Sd.mk hbox; have GW175 := bge w hg; have GE175 := bge w hg; have NB174_175 := bnl BK174 hg; have NB175_174 := bng BK174 hg; replace BK174 := bkb BK174 hb; replace HB := bsq w hb; clear hb hbox hg; have hnb7 := NB174_175.out; have hnc7 := NB175_174.out; have hcz8_0 := bz0 BK174; have hcz8_1 := bz1 BK174; have hfz8_0 := blk_frozen BK174.out 0; have hfz8_1 := blk_frozen BK174.out 1) | ((with_reducible refine gate_callee (f := 122) rfl ?_); refine goesL_ (some 4) rfl rfl Tryz.func122 (by kernel_rfl) rfl #[.agg #[.int .i64 a0_0, .int .i64 a0_1]] rfl ma ?_; (with_reducible refine (v_finite.calls a0_0 a0_1 true _ A2.out).mono ?_); rintro e w9 ⟨rfl, hb⟩; refine ⟨_, rfl, ?_⟩; replace BK174 := bkb BK174 hb; replace BK175 := bkb BK175 hb; replace HB := bsq w hb; (try clear hb); have hcz10_0 := bz0 BK174; have hcz10_1 := bz1 BK174; have hfz10_0 := blk_frozen BK174.out 0; have hfz10_1 := blk_frozen BK174.out 1) | ((with_reducible refine gate_callee (f := 76) rfl ?_); refine goesL_ (some 13) rfl rfl Tryz.func76 (by kernel_rfl) rfl #[.int .i64 (wrap64 (a0_1 - (Int.tmod (wrap64 ((Int.tmod a0_1 1000) + 1000)) 1000)))] rfl ma ?_; (with_reducible refine (v_Num.calls (wrap64 (a0_1 - (Int.tmod (wrap64 ((Int.tmod a0_1 1000) + 1000)) 1000))) t177 t178 _ A4.out).mono ?_); rintro e w11 ⟨rfl, hb⟩; refine ⟨_, rfl, ?_⟩; replace BK174 := bkb BK174 hb; replace BK175 := bkb BK175 hb; replace HB := bsq w hb; (try clear hb); have hcz12_0 := bz0 BK175; have hcz12_1 := bz1 BK175; have hfz12_0 := blk_frozen BK175.out 0; have hfz12_1 := blk_frozen BK175.out 1))
  refine bodyPost_ret (results_cell_row rfl _ _ gb175 25 #[.int .i64 t177, .int .i64 t178] (0, 0) _ rfl (by (repeat refine dw ?_); refine blk_put (cs := #[.int .i64 t177, .int .i64 0]) ?_ 1 _ rfl; (repeat refine dw ?_); refine blk_put (cs := #[.int .i64 0, .int .i64 0]) ?_ 0 _ rfl; (repeat refine dw ?_); exact BK175.out) Tryz.underlying25 rfl (by kernel_rfl)) rfl ?_
  exact ⟨fe, bbl⟩
 ·replace c3 := Bool.eq_false_iff.mpr c3
  subst c3
  replace H := iF H
  simp only [Option.some.injEq, Prod.mk.injEq] at H
  obtain ⟨rfl, rfl⟩ := H
  go_enter Tryz.func121, Tryz.ntmps121
  go_wp2_with (first | ((with_reducible refine gate_dst (N := 1) rfl ?_); refine bxe (N := 1) (cs := #[.int .i64 a0_0, .int .i64 a0_1]) (t := 25) ?_; intro gb174 hg w13 hbox hb; have BK174 := Sd.mk hbox; have GW174 := bge w hg; have GE174 := bge w hg; replace HB := bsq w hb; clear hb hbox hg) | ((with_reducible refine gate_dst (N := 2) rfl ?_); refine bxe (N := 2) (cs := #[.int .i64 0, .int .i64 0]) (t := 25) ?_; intro gb175 hg w14 hbox hb; have BK175 := Sd.mk hbox; have GW175 := bge w hg; have GE175 := bge w hg; have NB174_175 := bnl BK174 hg; have NB175_174 := bng BK174 hg; replace BK174 := bkb BK174 hb; replace HB := bsq w hb; clear hb hbox hg; have hnb15 := NB174_175.out; have hnc15 := NB175_174.out; have hcz16_0 := bz0 BK174; have hcz16_1 := bz1 BK174; have hfz16_0 := blk_frozen BK174.out 0; have hfz16_1 := blk_frozen BK174.out 1) | ((with_reducible refine gate_callee (f := 122) rfl ?_); refine goesL_ (some 4) rfl rfl Tryz.func122 (by kernel_rfl) rfl #[.agg #[.int .i64 a0_0, .int .i64 a0_1]] rfl ma ?_; (with_reducible refine (v_finite.calls a0_0 a0_1 false _ A2.out).mono ?_); rintro e w17 ⟨rfl, hb⟩; refine ⟨_, rfl, ?_⟩; replace BK174 := bkb BK174 hb; replace BK175 := bkb BK175 hb; replace HB := bsq w hb; (try clear hb); have hcz18_0 := bz0 BK174; have hcz18_1 := bz1 BK174; have hfz18_0 := blk_frozen BK174.out 0; have hfz18_1 := blk_frozen BK174.out 1; have hcz19_0 := bz0 BK175; have hcz19_1 := bz1 BK175; have hfz19_0 := blk_frozen BK175.out 0; have hfz19_1 := blk_frozen BK175.out 1))
  refine bodyPost_ret (results_cell_row rfl _ _ gb175 25 #[.int .i64 a0_0, .int .i64 a0_1] (0, 0) _ rfl (by (repeat refine dw ?_); refine blk_put (cs := #[.int .i64 a0_0, .int .i64 0]) ?_ 1 _ rfl; (repeat refine dw ?_); refine blk_put (cs := #[.int .i64 0, .int .i64 0]) ?_ 0 _ rfl; (repeat refine dw ?_); exact BK175.out) Tryz.underlying25 rfl (by kernel_rfl)) rfl ?_
  exact ⟨fe, bbl⟩
def v_Truth.f (a0 : Bool) : Option (Int × Int) := if a0 = true then ((v_Num.f 1000).bind fun bt180 => (some (bt180.1, bt180.2))) else ((v_Num.f 0).bind fun bt182 => (some (bt182.1, bt182.2)))
theorem v_Truth.calls (a0 : Bool) (r1 : Int) (r2 : Int) (w : World) (h : v_Truth.f a0 = some (r1, r2)) :
  Calls Tryz.prog 124 #[.bool a0] w fun e w' => e = .returned (.agg #[.int .i64 r1, .int .i64 r2]) ∧ Below w.heap.size w w' := by
 have hu25 := Tryz.underlying25
 have HB := Sd.mk (Below.refl w.heap.size w)
 have H : (if a0 = true then ((v_Num.f 1000).bind fun bt180 => (some (bt180.1, bt180.2))) else ((v_Num.f 0).bind fun bt182 => (some (bt182.1, bt182.2)))) = some (r1, r2) := h
 clear h
 by_cases c2 : a0 = true
 ·subst c2
  replace H := iT H
  obtain ⟨⟨t180, t181⟩, A3, H⟩ := bnd H
  replace H : (some (t180, t181)) = some (r1, r2) := H
  simp only [Option.some.injEq, Prod.mk.injEq] at H
  obtain ⟨rfl, rfl⟩ := H
  go_enter Tryz.func124, Tryz.ntmps124
  go_wp2_with (first | ((with_reducible refine gate_dst (N := 2) rfl ?_); refine bxe (N := 2) (cs := #[.int .i64 0, .int .i64 0]) (t := 25) ?_; intro gb179 hg w4 hbox hb; have BK179 := Sd.mk hbox; have GW179 := bge w hg; have GE179 := bge w hg; replace HB := bsq w hb; clear hb hbox hg) | ((with_reducible refine gate_callee (f := 76) rfl ?_); refine goesL_ (some 4) rfl rfl Tryz.func76 (by kernel_rfl) rfl #[.int .i64 1000] rfl ma ?_; (with_reducible refine (v_Num.calls 1000 t180 t181 _ A3.out).mono ?_); rintro e w5 ⟨rfl, hb⟩; refine ⟨_, rfl, ?_⟩; replace BK179 := bkb BK179 hb; replace HB := bsq w hb; (try clear hb); have hcz6_0 := bz0 BK179; have hcz6_1 := bz1 BK179; have hfz6_0 := blk_frozen BK179.out 0; have hfz6_1 := blk_frozen BK179.out 1))
  refine bodyPost_ret (results_cell_row rfl _ _ gb179 25 #[.int .i64 t180, .int .i64 t181] (0, 0) _ rfl (by (repeat refine dw ?_); refine blk_put (cs := #[.int .i64 t180, .int .i64 0]) ?_ 1 _ rfl; (repeat refine dw ?_); refine blk_put (cs := #[.int .i64 0, .int .i64 0]) ?_ 0 _ rfl; (repeat refine dw ?_); exact BK179.out) Tryz.underlying25 rfl (by kernel_rfl)) rfl ?_
  exact ⟨fe, bbl⟩
 ·replace c2 := Bool.eq_false_iff.mpr c2
  subst c2
  replace H := iF H
  obtain ⟨⟨t182, t183⟩, A7, H⟩ := bnd H
  replace H : (some (t182, t183)) = some (r1, r2) := H
  simp only [Option.some.injEq, Prod.mk.injEq] at H
  obtain ⟨rfl, rfl⟩ := H
  go_enter Tryz.func124, Tryz.ntmps124
  go_wp2_with (first | ((with_reducible refine gate_dst (N := 2) rfl ?_); refine bxe (N := 2) (cs := #[.int .i64 0, .int .i64 0]) (t := 25) ?_; intro gb179 hg w8 hbox hb; have BK179 := Sd.mk hbox; have GW179 := bge w hg; have GE179 := bge w hg; replace HB := bsq w hb; clear hb hbox hg) | ((with_reducible refine gate_callee (f := 76) rfl ?_); refine goesL_ (some 5) rfl rfl Tryz.func76 (by kernel_rfl) rfl #[.int .i64 0] rfl ma ?_; (with_reducible refine (v_Num.calls 0 t182 t183 _ A7.out).mono ?_); rintro e w9 ⟨rfl, hb⟩; refine ⟨_, rfl, ?_⟩; replace BK179 := bkb BK179 hb; replace HB := bsq w hb; (try clear hb); have hcz10_0 := bz0 BK179; have hcz10_1 := bz1 BK179; have hfz10_0 := blk_frozen BK179.out 0; have hfz10_1 := blk_frozen BK179.out 1))
  refine bodyPost_ret (results_cell_row rfl _ _ gb179 25 #[.int .i64 t182, .int .i64 t183] (0, 0) _ rfl (by (repeat refine dw ?_); refine blk_put (cs := #[.int .i64 t182, .int .i64 0]) ?_ 1 _ rfl; (repeat refine dw ?_); refine blk_put (cs := #[.int .i64 0, .int .i64 0]) ?_ 0 _ rfl; (repeat refine dw ?_); exact BK179.out) Tryz.underlying25 rfl (by kernel_rfl)) rfl ?_
  exact ⟨fe, bbl⟩
def v_ones_4.f (a0_0 : Int) (a0_1 : Int) : Option (Int × Int) := if a0_0 = 2 then (some (a0_0, a0_1)) else ((v_True.f a0_0 a0_1).bind fun t186 => ((v_Truth.f (!t186)).bind fun bt187 => (some (bt187.1, bt187.2))))
theorem v_ones_4.calls (a0_0 : Int) (a0_1 : Int) (r1 : Int) (r2 : Int) (w : World) (h : v_ones_4.f a0_0 a0_1 = some (r1, r2)) :
  Calls Tryz.prog 123 #[.agg #[.int .i64 a0_0, .int .i64 a0_1]] w fun e w' => e = .returned (.agg #[.int .i64 r1, .int .i64 r2]) ∧ Below w.heap.size w w' := by
 have hu25 := Tryz.underlying25
 have HB := Sd.mk (Below.refl w.heap.size w)
 have H : (if a0_0 = 2 then (some (a0_0, a0_1)) else ((v_True.f a0_0 a0_1).bind fun t186 => ((v_Truth.f (!t186)).bind fun bt187 => (some (bt187.1, bt187.2))))) = some (r1, r2) := h
 clear h
 by_cases c2 : a0_0 = 2
 ·rw [if_pos c2] at H
  have c2b0 := beq_iff_eq.mpr c2
  have c2b1 := bne_eq_false_iff_eq.mpr c2
  clear c2
  simp only [Option.some.injEq, Prod.mk.injEq] at H
  obtain ⟨rfl, rfl⟩ := H
  go_enter Tryz.func123, Tryz.ntmps123
  go_wp2_with (first | ((with_reducible refine gate_dst (N := 1) rfl ?_); refine bxe (N := 1) (cs := #[.int .i64 a0_0, .int .i64 a0_1]) (t := 25) ?_; intro gb184 hg w3 hbox hb; have BK184 := Sd.mk hbox; have GW184 := bge w hg; have GE184 := bge w hg; replace HB := bsq w hb; clear hb hbox hg) | ((with_reducible refine gate_dst (N := 2) rfl ?_); refine bxe (N := 2) (cs := #[.int .i64 0, .int .i64 0]) (t := 25) ?_; intro gb185 hg w4 hbox hb; have BK185 := Sd.mk hbox; have GW185 := bge w hg; have GE185 := bge w hg; have NB184_185 := bnl BK184 hg; have NB185_184 := bng BK184 hg; replace BK184 := bkb BK184 hb; replace HB := bsq w hb; clear hb hbox hg; have hnb5 := NB184_185.out; have hnc5 := NB185_184.out; have hcz6_0 := bz0 BK184; have hcz6_1 := bz1 BK184; have hfz6_0 := blk_frozen BK184.out 0; have hfz6_1 := blk_frozen BK184.out 1; have hcz7_0 := bz0 BK185; have hcz7_1 := bz1 BK185; have hfz7_0 := blk_frozen BK185.out 0; have hfz7_1 := blk_frozen BK185.out 1))
  refine bodyPost_ret (results_cell_row rfl _ _ gb185 25 #[.int .i64 a0_0, .int .i64 a0_1] (0, 0) _ rfl (by (repeat refine dw ?_); refine blk_put (cs := #[.int .i64 a0_0, .int .i64 0]) ?_ 1 _ rfl; (repeat refine dw ?_); refine blk_put (cs := #[.int .i64 0, .int .i64 0]) ?_ 0 _ rfl; (repeat refine dw ?_); exact BK185.out) Tryz.underlying25 rfl (by kernel_rfl)) rfl ?_
  exact ⟨fe, bbl⟩
 ·rw [if_neg c2] at H
  have c2b0 := beq_eq_false_iff_ne.mpr c2
  have c2b1 := bne_iff_ne.mpr c2
  obtain ⟨t186, A8, H⟩ := bnd H
  obtain ⟨⟨t187, t188⟩, A9, H⟩ := bnd H
  replace H : (some (t187, t188)) = some (r1, r2) := H
  simp only [Option.some.injEq, Prod.mk.injEq] at H
  obtain ⟨rfl, rfl⟩ := H
  go_enter Tryz.func123, Tryz.ntmps123
  go_wp2_with (first | ((with_reducible refine gate_dst (N := 1) rfl ?_); refine bxe (N := 1) (cs := #[.int .i64 a0_0, .int .i64 a0_1]) (t := 25) ?_; intro gb184 hg w10 hbox hb; have BK184 := Sd.mk hbox; have GW184 := bge w hg; have GE184 := bge w hg; replace HB := bsq w hb; clear hb hbox hg) | ((with_reducible refine gate_dst (N := 2) rfl ?_); refine bxe (N := 2) (cs := #[.int .i64 0, .int .i64 0]) (t := 25) ?_; intro gb185 hg w11 hbox hb; have BK185 := Sd.mk hbox; have GW185 := bge w hg; have GE185 := bge w hg; have NB184_185 := bnl BK184 hg; have NB185_184 := bng BK184 hg; replace BK184 := bkb BK184 hb; replace HB := bsq w hb; clear hb hbox hg; have hnb12 := NB184_185.out; have hnc12 := NB185_184.out; have hcz13_0 := bz0 BK184; have hcz13_1 := bz1 BK184; have hfz13_0 := blk_frozen BK184.out 0; have hfz13_1 := blk_frozen BK184.out 1) | ((with_reducible refine gate_callee (f := 117) rfl ?_); refine goesL_ (some 8) rfl rfl Tryz.func117 (by kernel_rfl) rfl #[.agg #[.int .i64 a0_0, .int .i64 a0_1]] rfl ma ?_; (with_reducible refine (v_True.calls a0_0 a0_1 t186 _ A8.out).mono ?_); rintro e w14 ⟨rfl, hb⟩; refine ⟨_, rfl, ?_⟩; replace BK184 := bkb BK184 hb; replace BK185 := bkb BK185 hb; replace HB := bsq w hb; (try clear hb)) | ((with_reducible refine gate_callee (f := 124) rfl ?_); refine goesL_ (some 10) rfl rfl Tryz.func124 (by kernel_rfl) rfl #[.bool (!t186)] rfl ma ?_; (with_reducible refine (v_Truth.calls (!t186) t187 t188 _ A9.out).mono ?_); rintro e w15 ⟨rfl, hb⟩; refine ⟨_, rfl, ?_⟩; replace BK184 := bkb BK184 hb; replace BK185 := bkb BK185 hb; replace HB := bsq w hb; (try clear hb); have hcz16_0 := bz0 BK185; have hcz16_1 := bz1 BK185; have hfz16_0 := blk_frozen BK185.out 0; have hfz16_1 := blk_frozen BK185.out 1))
  refine bodyPost_ret (results_cell_row rfl _ _ gb185 25 #[.int .i64 t187, .int .i64 t188] (0, 0) _ rfl (by (repeat refine dw ?_); refine blk_put (cs := #[.int .i64 t187, .int .i64 0]) ?_ 1 _ rfl; (repeat refine dw ?_); refine blk_put (cs := #[.int .i64 0, .int .i64 0]) ?_ 0 _ rfl; (repeat refine dw ?_); exact BK185.out) Tryz.underlying25 rfl (by kernel_rfl)) rfl ?_
  exact ⟨fe, bbl⟩
def v_twos_1.f (k : Nat) (a0_0 : Int) (a0_1 : Int) (a1_0 : Int) (a1_1 : Int) : Option (Int × Int) := (v_rank.f a1_0 a1_1).bind fun t192 => ((v_back.f (wrap64 (-t192))).bind fun bt193 => ((v_add.f k a0_0 a0_1 bt193.1 bt193.2).bind fun bt195 => (some (bt195.1, bt195.2))))
theorem v_twos_1.calls (k : Nat) (a0_0 : Int) (a0_1 : Int) (a1_0 : Int) (a1_1 : Int) (r1 : Int) (r2 : Int) (w : World) (h : v_twos_1.f k a0_0 a0_1 a1_0 a1_1 = some (r1, r2)) :
  Calls Tryz.prog 128 #[.agg #[.int .i64 a0_0, .int .i64 a0_1], .agg #[.int .i64 a1_0, .int .i64 a1_1]] w fun e w' => e = .returned (.agg #[.int .i64 r1, .int .i64 r2]) ∧ Below w.heap.size w w' := by
 have hu25 := Tryz.underlying25
 have HB := Sd.mk (Below.refl w.heap.size w)
 have H : ((v_rank.f a1_0 a1_1).bind fun t192 => ((v_back.f (wrap64 (-t192))).bind fun bt193 => ((v_add.f k a0_0 a0_1 bt193.1 bt193.2).bind fun bt195 => (some (bt195.1, bt195.2))))) = some (r1, r2) := h
 clear h
 obtain ⟨t192, A3, H⟩ := bnd H
 obtain ⟨⟨t193, t194⟩, A4, H⟩ := bnd H
 replace H : ((v_add.f k a0_0 a0_1 t193 t194).bind fun bt195 => (some (bt195.1, bt195.2))) = some (r1, r2) := H
 obtain ⟨⟨t195, t196⟩, A5, H⟩ := bnd H
 replace H : (some (t195, t196)) = some (r1, r2) := H
 simp only [Option.some.injEq, Prod.mk.injEq] at H
 obtain ⟨rfl, rfl⟩ := H
 go_enter Tryz.func128, Tryz.ntmps128
 try go_wp2_with (first | ((with_reducible refine gate_dst (N := 2) rfl ?_); refine bxe (N := 2) (cs := #[.int .i64 a0_0, .int .i64 a0_1]) (t := 25) ?_; intro gb189 hg w6 hbox hb; have BK189 := Sd.mk hbox; have GW189 := bge w hg; have GE189 := bge w hg; replace HB := bsq w hb; clear hb hbox hg) | ((with_reducible refine gate_dst (N := 3) rfl ?_); refine bxe (N := 3) (cs := #[.int .i64 a1_0, .int .i64 a1_1]) (t := 25) ?_; intro gb190 hg w7 hbox hb; have BK190 := Sd.mk hbox; have GW190 := bge w hg; have GE190 := bge w hg; have NB189_190 := bnl BK189 hg; have NB190_189 := bng BK189 hg; replace BK189 := bkb BK189 hb; replace HB := bsq w hb; clear hb hbox hg) | ((with_reducible refine gate_dst (N := 4) rfl ?_); refine bxe (N := 4) (cs := #[.int .i64 0, .int .i64 0]) (t := 25) ?_; intro gb191 hg w8 hbox hb; have BK191 := Sd.mk hbox; have GW191 := bge w hg; have GE191 := bge w hg; have NB189_191 := bnl BK189 hg; have NB191_189 := bng BK189 hg; have NB190_191 := bnl BK190 hg; have NB191_190 := bng BK190 hg; replace BK189 := bkb BK189 hb; replace BK190 := bkb BK190 hb; replace HB := bsq w hb; clear hb hbox hg))
 have n0_ := Sd.mk (blk_drew BK189.out)
 have n1_ := Sd.mk (blk_drew BK190.out)
 have n2_ := Sd.mk (blk_drew BK191.out)
 have n3_ := Sd.mk (bd1 HB.out)
 clear BK189 BK190 BK191 HB
 have BK189 := n0_
 have BK190 := n1_
 have BK191 := n2_
 have HB := n3_
 clear n0_ n1_ n2_ n3_
 refine start_ (n := 7) (S := fun w' => w'.cell? ⟨gb189, 0, none⟩ = some (.int .i64 a0_0) ∧ w'.cell? ⟨gb189, 1, none⟩ = some (.int .i64 a0_1) ∧ w'.cell? ⟨gb190, 0, none⟩ = some (.int .i64 a1_0) ∧ w'.cell? ⟨gb190, 1, none⟩ = some (.int .i64 a1_1)) (ds := []) #[false, false, false, false, false, false, false] (by kernel_rfl) rfl rfl ⟨(blk_cell BK189.out 0).trans rfl, (blk_cell BK189.out 1).trans rfl, (blk_cell BK190.out 0).trans rfl, (blk_cell BK190.out 1).trans rfl⟩ (fun hHeld => ?_)
 generalize w8.drew = w9 at BK189 BK190 BK191 HB hHeld ⊢
 refine take_ (i := 0) (N := some 5) (v := ?_) (a' := ?_) #[true, false, false, false, false, false, false] rfl rfl (by kernel_rfl) (fun _ _ _ h => h) (Or.inl ⟨by rfl, ?_⟩) hHeld ?_ ?_
 rotate_left
 ·rintro w' ⟨s0, s1, s2, s3⟩
  go_simp
  with_reducible rfl
 rotate_left
 ·simp only [Act.put, List.setIfInBounds_toArray, List.set_cons_zero, List.set_cons_succ, i64_w, i32_w]
  rfl
 refine take_ (i := 1) (N := some 6) (v := ?_) (a' := ?_) #[true, true, false, false, false, false, false] rfl rfl (by kernel_rfl) (fun _ _ _ h => h) (Or.inl ⟨by rfl, ?_⟩) hHeld ?_ ?_
 rotate_left
 ·rintro w' ⟨s0, s1, s2, s3⟩
  go_simp
  with_reducible rfl
 rotate_left
 ·simp only [Act.put, List.setIfInBounds_toArray, List.set_cons_zero, List.set_cons_succ, i64_w, i32_w]
  rfl
 refine one_ (i := 2) (N := some 7) #[true, true, true, false, false, false, false] rfl rfl (by kernel_rfl) (by decide) (fun K hK => ?_)
 refine goes_ Tryz.func130 (by kernel_rfl) rfl #[.agg #[.int .i64 a1_0, .int .i64 a1_1]] (by rfl) rfl rfl ma ?_
 with_reducible refine (v_rank.calls a1_0 a1_1 t192 _ A3.out).mono ?_
 rintro e w10 ⟨rfl, hb⟩
 refine ⟨_, rfl, ?_⟩
 have n0_ := bkb BK189 hb
 have n1_ := bkb BK190 hb
 have n2_ := bkb BK191 hb
 have n3_ := bsq w hb
 clear BK189 BK190 BK191 HB
 have BK189 := n0_
 have BK190 := n1_
 have BK191 := n2_
 have HB := n3_
 clear n0_ n1_ n2_ n3_
 (try clear hb)
 (try clear hb2)
 (try clear hk)
 (try clear hi)
 refine hK.out _ _ ⟨(blk_cell BK189.out 0).trans rfl, (blk_cell BK189.out 1).trans rfl, (blk_cell BK190.out 0).trans rfl, (blk_cell BK190.out 1).trans rfl⟩ (fun hHeld => ?_)
 clear hK K
 refine norm_ (a' := ?_) ?_ ?_
 rotate_left
 ·show Act.put _ (some 7) _ = _
  simp only [Act.put, List.setIfInBounds_toArray, List.set_cons_zero, List.set_cons_succ, i64_w, i32_w]
  rfl
 refine pure_ (i := 3) (N := some 8) (v := ?_) (a' := ?_) #[true, true, true, true, false, false, false] rfl rfl (by kernel_rfl) (fun _ _ _ h => h) (Or.inl ⟨by rfl, ?_⟩) ?_ ?_
 rotate_left
 ·intro w'
  go_simp
  with_reducible rfl
 rotate_left
 ·simp only [Act.put, List.setIfInBounds_toArray, List.set_cons_zero, List.set_cons_succ, i64_w, i32_w]
  rfl
 refine one_ (i := 4) (N := some 9) #[true, true, true, true, true, false, false] rfl rfl (by kernel_rfl) (by decide) (fun K hK => ?_)
 refine goes_ Tryz.func129 (by kernel_rfl) rfl #[.int .i64 (wrap64 (-t192))] (by rfl) rfl rfl ma ?_
 with_reducible refine (v_back.calls (wrap64 (-t192)) t193 t194 _ A4.out).mono ?_
 rintro e w11 ⟨rfl, hb⟩
 refine ⟨_, rfl, ?_⟩
 have n0_ := bkb BK189 hb
 have n1_ := bkb BK190 hb
 have n2_ := bkb BK191 hb
 have n3_ := bsq w hb
 clear BK189 BK190 BK191 HB
 have BK189 := n0_
 have BK190 := n1_
 have BK191 := n2_
 have HB := n3_
 clear n0_ n1_ n2_ n3_
 (try clear hb)
 (try clear hb2)
 (try clear hk)
 (try clear hi)
 refine hK.out _ _ ⟨(blk_cell BK189.out 0).trans rfl, (blk_cell BK189.out 1).trans rfl, (blk_cell BK190.out 0).trans rfl, (blk_cell BK190.out 1).trans rfl⟩ (fun hHeld => ?_)
 clear hK K
 refine norm_ (a' := ?_) ?_ ?_
 rotate_left
 ·show Act.put _ (some 9) _ = _
  simp only [Act.put, List.setIfInBounds_toArray, List.set_cons_zero, List.set_cons_succ, i64_w, i32_w]
  rfl
 refine one_ (i := 5) (N := some 10) #[true, true, true, true, true, true, false] rfl rfl (by kernel_rfl) (by decide) (fun K hK => ?_)
 refine goes_ Tryz.func127 (by kernel_rfl) rfl #[.agg #[.int .i64 a0_0, .int .i64 a0_1], .agg #[.int .i64 t193, .int .i64 t194]] (by rfl) rfl rfl ma ?_
 with_reducible refine (v_add.calls k a0_0 a0_1 t193 t194 t195 t196 _ A5.out).mono ?_
 rintro e w12 ⟨rfl, hb⟩
 refine ⟨_, rfl, ?_⟩
 have n0_ := bkb BK189 hb
 have n1_ := bkb BK190 hb
 have n2_ := bkb BK191 hb
 have n3_ := bsq w hb
 clear BK189 BK190 BK191 HB
 have BK189 := n0_
 have BK190 := n1_
 have BK191 := n2_
 have HB := n3_
 clear n0_ n1_ n2_ n3_
 (try clear hb)
 (try clear hb2)
 (try clear hk)
 (try clear hi)
 refine hK.out _ _ ⟨(blk_cell BK189.out 0).trans rfl, (blk_cell BK189.out 1).trans rfl, (blk_cell BK190.out 0).trans rfl, (blk_cell BK190.out 1).trans rfl⟩ (fun hHeld => ?_)
 clear hK K
 refine norm_ (a' := ?_) ?_ ?_
 rotate_left
 ·show Act.put _ (some 10) _ = _
  simp only [Act.put, List.setIfInBounds_toArray, List.set_cons_zero, List.set_cons_succ, i64_w, i32_w]
  rfl
 refine one_ (i := 6) (N := none) #[true, true, true, true, true, true, true] rfl rfl (by kernel_rfl) (by decide) (fun K hK => ?_)
 have hs13 : w12.cell? ⟨gb191, 0, none⟩ = some (.int .i64 0) := (blk_cell BK191.out 0).trans rfl
 have hfs13 := blk_frozen BK191.out 0
 have hns13_0 := NB189_191.out
 have hns13_1 := NB190_191.out
 have hms13_0 := NB191_189.out
 have hms13_1 := NB191_190.out
 have hs14 : w12.cell? ⟨gb191, 1, none⟩ = some (.int .i64 0) := (blk_cell BK191.out 1).trans rfl
 have hfs14 := blk_frozen BK191.out 1
 have hns14_0 := NB189_191.out
 have hns14_1 := NB190_191.out
 have hms14_0 := NB191_189.out
 have hms14_1 := NB191_190.out
 refine skip_ (w1 := ?_) (by rfl) rfl ?_ ?_
 rotate_left
 ·go_simp
  rfl
 refine hK.out _ _ ⟨((cell_far (p := ⟨gb191, _, none⟩) NB189_191.out _).trans (((cell_far (p := ⟨gb191, _, none⟩) NB189_191.out _).trans (hHeld.1)))), ((cell_far (p := ⟨gb191, _, none⟩) NB189_191.out _).trans (((cell_far (p := ⟨gb191, _, none⟩) NB189_191.out _).trans (hHeld.2.1)))), ((cell_far (p := ⟨gb191, _, none⟩) NB190_191.out _).trans (((cell_far (p := ⟨gb191, _, none⟩) NB190_191.out _).trans (hHeld.2.2.1)))), ((cell_far (p := ⟨gb191, _, none⟩) NB190_191.out _).trans (((cell_far (p := ⟨gb191, _, none⟩) NB190_191.out _).trans (hHeld.2.2.2))))⟩ (fun hHeld => ?_)
 clear hK K
 refine done_ (by kernel_rfl) ?_
 try go_wp2
 refine bodyPost_ret (results_cell_row rfl _ _ gb191 25 #[.int .i64 t195, .int .i64 t196] (0, 0) _ rfl (by (repeat refine dw ?_); refine blk_put (cs := #[.int .i64 t195, .int .i64 0]) ?_ 1 _ rfl; (repeat refine dw ?_); refine blk_put (cs := #[.int .i64 0, .int .i64 0]) ?_ 0 _ rfl; (repeat refine dw ?_); exact BK191.out) Tryz.underlying25 rfl (by kernel_rfl)) rfl ?_
 exact ⟨fe, bbl⟩
def v_twos_2.f (a0 : Int) (a1 : Int) : Option (Bool) := some (a0 == a1)
theorem v_twos_2.calls (a0 : Int) (a1 : Int) (r : Bool) (w : World) (h : v_twos_2.f a0 a1 = some r) :
  Calls Tryz.prog 134 #[.int .i64 a0, .int .i64 a1] w fun e w' => e = .returned (.bool r) ∧ Drawn0 w w' := by
 have H : (some (a0 == a1)) = some r := h
 clear h
 obtain rfl := Option.some.inj H
 go_enter Tryz.func134, Tryz.ntmps134
 go_wp2
 go_ret
 exact ⟨ae, by repeat (first | exact Drawn0.refl _ | apply Drawn0.step)⟩
def v_twos_3.f (a0 : Int) (a1 : Int) : Option (Bool) := some (a0 != a1)
theorem v_twos_3.calls (a0 : Int) (a1 : Int) (r : Bool) (w : World) (h : v_twos_3.f a0 a1 = some r) :
  Calls Tryz.prog 135 #[.int .i64 a0, .int .i64 a1] w fun e w' => e = .returned (.bool r) ∧ Drawn0 w w' := by
 have H : (some (a0 != a1)) = some r := h
 clear h
 obtain rfl := Option.some.inj H
 go_enter Tryz.func135, Tryz.ntmps135
 go_wp2
 go_ret
 exact ⟨ae, by repeat (first | exact Drawn0.refl _ | apply Drawn0.step)⟩
def v_twos_4.f (a0 : Int) (a1 : Int) : Option (Bool) := some (decide (a0 < a1))
theorem v_twos_4.calls (a0 : Int) (a1 : Int) (r : Bool) (w : World) (h : v_twos_4.f a0 a1 = some r) :
  Calls Tryz.prog 136 #[.int .i64 a0, .int .i64 a1] w fun e w' => e = .returned (.bool r) ∧ Drawn0 w w' := by
 have H : (some (decide (a0 < a1))) = some r := h
 clear h
 obtain rfl := Option.some.inj H
 go_enter Tryz.func136, Tryz.ntmps136
 go_wp2
 go_ret
 exact ⟨ae, by repeat (first | exact Drawn0.refl _ | apply Drawn0.step)⟩
def v_twos_5.f (a0 : Int) (a1 : Int) : Option (Bool) := some (decide (a0 ≤ a1))
theorem v_twos_5.calls (a0 : Int) (a1 : Int) (r : Bool) (w : World) (h : v_twos_5.f a0 a1 = some r) :
  Calls Tryz.prog 137 #[.int .i64 a0, .int .i64 a1] w fun e w' => e = .returned (.bool r) ∧ Drawn0 w w' := by
 have H : (some (decide (a0 ≤ a1))) = some r := h
 clear h
 obtain rfl := Option.some.inj H
 go_enter Tryz.func137, Tryz.ntmps137
 go_wp2
 go_ret
 exact ⟨ae, by repeat (first | exact Drawn0.refl _ | apply Drawn0.step)⟩
def v_twos_6.f (a0 : Int) (a1 : Int) : Option (Bool) := some (decide (a0 > a1))
theorem v_twos_6.calls (a0 : Int) (a1 : Int) (r : Bool) (w : World) (h : v_twos_6.f a0 a1 = some r) :
  Calls Tryz.prog 138 #[.int .i64 a0, .int .i64 a1] w fun e w' => e = .returned (.bool r) ∧ Drawn0 w w' := by
 have H : (some (decide (a0 > a1))) = some r := h
 clear h
 obtain rfl := Option.some.inj H
 go_enter Tryz.func138, Tryz.ntmps138
 go_wp2
 go_ret
 exact ⟨ae, by repeat (first | exact Drawn0.refl _ | apply Drawn0.step)⟩
def v_twos_7.f (a0 : Int) (a1 : Int) : Option (Bool) := some (decide (a0 ≥ a1))
theorem v_twos_7.calls (a0 : Int) (a1 : Int) (r : Bool) (w : World) (h : v_twos_7.f a0 a1 = some r) :
  Calls Tryz.prog 139 #[.int .i64 a0, .int .i64 a1] w fun e w' => e = .returned (.bool r) ∧ Drawn0 w w' := by
 have H : (some (decide (a0 ≥ a1))) = some r := h
 clear h
 obtain rfl := Option.some.inj H
 go_enter Tryz.func139, Tryz.ntmps139
 go_wp2
 go_ret
 exact ⟨ae, by repeat (first | exact Drawn0.refl _ | apply Drawn0.step)⟩
def v_twos_8.f (a0_0 : Int) (a0_1 : Int) (a1_0 : Int) (a1_1 : Int) : Option (Int × Int) := (v_True.f a0_0 a0_1).bind fun t200 => (if t200 = true then ((v_True.f a1_0 a1_1).bind fun t201 => ((v_Truth.f t201).bind fun bt202 => (some (bt202.1, bt202.2)))) else ((v_Truth.f false).bind fun bt204 => (some (bt204.1, bt204.2))))
theorem v_twos_8.calls (a0_0 : Int) (a0_1 : Int) (a1_0 : Int) (a1_1 : Int) (r1 : Int) (r2 : Int) (w : World) (h : v_twos_8.f a0_0 a0_1 a1_0 a1_1 = some (r1, r2)) :
  Calls Tryz.prog 140 #[.agg #[.int .i64 a0_0, .int .i64 a0_1], .agg #[.int .i64 a1_0, .int .i64 a1_1]] w fun e w' => e = .returned (.agg #[.int .i64 r1, .int .i64 r2]) ∧ Below w.heap.size w w' := by
 have hu25 := Tryz.underlying25
 have HB := Sd.mk (Below.refl w.heap.size w)
 have H : ((v_True.f a0_0 a0_1).bind fun t200 => (if t200 = true then ((v_True.f a1_0 a1_1).bind fun t201 => ((v_Truth.f t201).bind fun bt202 => (some (bt202.1, bt202.2)))) else ((v_Truth.f false).bind fun bt204 => (some (bt204.1, bt204.2))))) = some (r1, r2) := h
 clear h
 obtain ⟨t200, A3, H⟩ := bnd H
 by_cases c4 : t200 = true
 ·subst c4
  replace H := iT H
  obtain ⟨t201, A5, H⟩ := bnd H
  obtain ⟨⟨t202, t203⟩, A6, H⟩ := bnd H
  replace H : (some (t202, t203)) = some (r1, r2) := H
  simp only [Option.some.injEq, Prod.mk.injEq] at H
  obtain ⟨rfl, rfl⟩ := H
  go_enter Tryz.func140, Tryz.ntmps140
  go_wp2_with (first | ((with_reducible refine gate_dst (N := 2) rfl ?_); refine bxe (N := 2) (cs := #[.int .i64 a0_0, .int .i64 a0_1]) (t := 25) ?_; intro gb197 hg w7 hbox hb; have BK197 := Sd.mk hbox; have GW197 := bge w hg; have GE197 := bge w hg; replace HB := bsq w hb; clear hb hbox hg) | ((with_reducible refine gate_dst (N := 3) rfl ?_); refine bxe (N := 3) (cs := #[.int .i64 a1_0, .int .i64 a1_1]) (t := 25) ?_; intro gb198 hg w8 hbox hb; have BK198 := Sd.mk hbox; have GW198 := bge w hg; have GE198 := bge w hg; have NB197_198 := bnl BK197 hg; have NB198_197 := bng BK197 hg; replace BK197 := bkb BK197 hb; replace HB := bsq w hb; clear hb hbox hg) | ((with_reducible refine gate_dst (N := 4) rfl ?_); refine bxe (N := 4) (cs := #[.int .i64 0, .int .i64 0]) (t := 25) ?_; intro gb199 hg w9 hbox hb; have BK199 := Sd.mk hbox; have GW199 := bge w hg; have GE199 := bge w hg; have NB197_199 := bnl BK197 hg; have NB199_197 := bng BK197 hg; have NB198_199 := bnl BK198 hg; have NB199_198 := bng BK198 hg; replace BK197 := bkb BK197 hb; replace BK198 := bkb BK198 hb; replace HB := bsq w hb; clear hb hbox hg; have hnb10 := NB197_198.out; have hnc10 := NB198_197.out; have hnb11 := NB197_199.out; have hnc11 := NB199_197.out; have hcz12_0 := bz0 BK197; have hcz12_1 := bz1 BK197; have hfz12_0 := blk_frozen BK197.out 0; have hfz12_1 := blk_frozen BK197.out 1) | ((with_reducible refine gate_callee (f := 117) rfl ?_); refine goesL_ (some 6) rfl rfl Tryz.func117 (by kernel_rfl) rfl #[.agg #[.int .i64 a0_0, .int .i64 a0_1]] rfl ma ?_; (with_reducible refine (v_True.calls a0_0 a0_1 true _ A3.out).mono ?_); rintro e w13 ⟨rfl, hb⟩; refine ⟨_, rfl, ?_⟩; replace BK197 := bkb BK197 hb; replace BK198 := bkb BK198 hb; replace BK199 := bkb BK199 hb; replace HB := bsq w hb; (try clear hb); have hnb14 := NB198_199.out; have hnc14 := NB199_198.out; have hcz15_0 := bz0 BK198; have hcz15_1 := bz1 BK198; have hfz15_0 := blk_frozen BK198.out 0; have hfz15_1 := blk_frozen BK198.out 1) | (go_at_call 117; (with_reducible refine (v_True.calls a1_0 a1_1 t201 _ A5.out).mono ?_); rintro e w16 ⟨rfl, hb⟩; replace BK197 := bkb BK197 hb; replace BK198 := bkb BK198 hb; replace BK199 := bkb BK199 hb; replace HB := bsq w hb; (try clear hb)) | ((with_reducible refine gate_callee (f := 124) rfl ?_); refine goesL_ (some 11) rfl rfl Tryz.func124 (by kernel_rfl) rfl #[.bool t201] rfl ma ?_; (with_reducible refine (v_Truth.calls t201 t202 t203 _ A6.out).mono ?_); rintro e w17 ⟨rfl, hb⟩; refine ⟨_, rfl, ?_⟩; replace BK197 := bkb BK197 hb; replace BK198 := bkb BK198 hb; replace BK199 := bkb BK199 hb; replace HB := bsq w hb; (try clear hb); have hcz18_0 := bz0 BK199; have hcz18_1 := bz1 BK199; have hfz18_0 := blk_frozen BK199.out 0; have hfz18_1 := blk_frozen BK199.out 1))
  refine bodyPost_ret (results_cell_row rfl _ _ gb199 25 #[.int .i64 t202, .int .i64 t203] (0, 0) _ rfl (by (repeat refine dw ?_); refine blk_put (cs := #[.int .i64 t202, .int .i64 0]) ?_ 1 _ rfl; (repeat refine dw ?_); refine blk_put (cs := #[.int .i64 0, .int .i64 0]) ?_ 0 _ rfl; (repeat refine dw ?_); exact BK199.out) Tryz.underlying25 rfl (by kernel_rfl)) rfl ?_
  exact ⟨fe, bbl⟩
 ·replace c4 := Bool.eq_false_iff.mpr c4
  subst c4
  replace H := iF H
  obtain ⟨⟨t204, t205⟩, A19, H⟩ := bnd H
  replace H : (some (t204, t205)) = some (r1, r2) := H
  simp only [Option.some.injEq, Prod.mk.injEq] at H
  obtain ⟨rfl, rfl⟩ := H
  go_enter Tryz.func140, Tryz.ntmps140
  go_wp2_with (first | ((with_reducible refine gate_dst (N := 2) rfl ?_); refine bxe (N := 2) (cs := #[.int .i64 a0_0, .int .i64 a0_1]) (t := 25) ?_; intro gb197 hg w20 hbox hb; have BK197 := Sd.mk hbox; have GW197 := bge w hg; have GE197 := bge w hg; replace HB := bsq w hb; clear hb hbox hg) | ((with_reducible refine gate_dst (N := 3) rfl ?_); refine bxe (N := 3) (cs := #[.int .i64 a1_0, .int .i64 a1_1]) (t := 25) ?_; intro gb198 hg w21 hbox hb; have BK198 := Sd.mk hbox; have GW198 := bge w hg; have GE198 := bge w hg; have NB197_198 := bnl BK197 hg; have NB198_197 := bng BK197 hg; replace BK197 := bkb BK197 hb; replace HB := bsq w hb; clear hb hbox hg) | ((with_reducible refine gate_dst (N := 4) rfl ?_); refine bxe (N := 4) (cs := #[.int .i64 0, .int .i64 0]) (t := 25) ?_; intro gb199 hg w22 hbox hb; have BK199 := Sd.mk hbox; have GW199 := bge w hg; have GE199 := bge w hg; have NB197_199 := bnl BK197 hg; have NB199_197 := bng BK197 hg; have NB198_199 := bnl BK198 hg; have NB199_198 := bng BK198 hg; replace BK197 := bkb BK197 hb; replace BK198 := bkb BK198 hb; replace HB := bsq w hb; clear hb hbox hg; have hnb23 := NB197_198.out; have hnc23 := NB198_197.out; have hnb24 := NB197_199.out; have hnc24 := NB199_197.out; have hcz25_0 := bz0 BK197; have hcz25_1 := bz1 BK197; have hfz25_0 := blk_frozen BK197.out 0; have hfz25_1 := blk_frozen BK197.out 1) | ((with_reducible refine gate_callee (f := 117) rfl ?_); refine goesL_ (some 6) rfl rfl Tryz.func117 (by kernel_rfl) rfl #[.agg #[.int .i64 a0_0, .int .i64 a0_1]] rfl ma ?_; (with_reducible refine (v_True.calls a0_0 a0_1 false _ A3.out).mono ?_); rintro e w26 ⟨rfl, hb⟩; refine ⟨_, rfl, ?_⟩; replace BK197 := bkb BK197 hb; replace BK198 := bkb BK198 hb; replace BK199 := bkb BK199 hb; replace HB := bsq w hb; (try clear hb)) | ((with_reducible refine gate_callee (f := 124) rfl ?_); refine goesL_ (some 11) rfl rfl Tryz.func124 (by kernel_rfl) rfl #[.bool false] rfl ma ?_; (with_reducible refine (v_Truth.calls false t204 t205 _ A19.out).mono ?_); rintro e w27 ⟨rfl, hb⟩; refine ⟨_, rfl, ?_⟩; replace BK197 := bkb BK197 hb; replace BK198 := bkb BK198 hb; replace BK199 := bkb BK199 hb; replace HB := bsq w hb; (try clear hb); have hnb28 := NB199_198.out; have hnc28 := NB198_199.out; have hcz29_0 := bz0 BK199; have hcz29_1 := bz1 BK199; have hfz29_0 := blk_frozen BK199.out 0; have hfz29_1 := blk_frozen BK199.out 1))
  refine bodyPost_ret (results_cell_row rfl _ _ gb199 25 #[.int .i64 t204, .int .i64 t205] (0, 0) _ rfl (by (repeat refine dw ?_); refine blk_put (cs := #[.int .i64 t204, .int .i64 0]) ?_ 1 _ rfl; (repeat refine dw ?_); refine blk_put (cs := #[.int .i64 0, .int .i64 0]) ?_ 0 _ rfl; (repeat refine dw ?_); exact BK199.out) Tryz.underlying25 rfl (by kernel_rfl)) rfl ?_
  exact ⟨fe, bbl⟩
def v_twos_9.f (a0_0 : Int) (a0_1 : Int) (a1_0 : Int) (a1_1 : Int) : Option (Int × Int) := (v_True.f a0_0 a0_1).bind fun t209 => (if t209 = true then ((v_Truth.f true).bind fun bt210 => (some (bt210.1, bt210.2))) else ((v_True.f a1_0 a1_1).bind fun t212 => ((v_Truth.f t212).bind fun bt213 => (some (bt213.1, bt213.2)))))
theorem v_twos_9.calls (a0_0 : Int) (a0_1 : Int) (a1_0 : Int) (a1_1 : Int) (r1 : Int) (r2 : Int) (w : World) (h : v_twos_9.f a0_0 a0_1 a1_0 a1_1 = some (r1, r2)) :
  Calls Tryz.prog 141 #[.agg #[.int .i64 a0_0, .int .i64 a0_1], .agg #[.int .i64 a1_0, .int .i64 a1_1]] w fun e w' => e = .returned (.agg #[.int .i64 r1, .int .i64 r2]) ∧ Below w.heap.size w w' := by
 have hu25 := Tryz.underlying25
 have HB := Sd.mk (Below.refl w.heap.size w)
 have H : ((v_True.f a0_0 a0_1).bind fun t209 => (if t209 = true then ((v_Truth.f true).bind fun bt210 => (some (bt210.1, bt210.2))) else ((v_True.f a1_0 a1_1).bind fun t212 => ((v_Truth.f t212).bind fun bt213 => (some (bt213.1, bt213.2)))))) = some (r1, r2) := h
 clear h
 obtain ⟨t209, A3, H⟩ := bnd H
 by_cases c4 : t209 = true
 ·subst c4
  replace H := iT H
  obtain ⟨⟨t210, t211⟩, A5, H⟩ := bnd H
  replace H : (some (t210, t211)) = some (r1, r2) := H
  simp only [Option.some.injEq, Prod.mk.injEq] at H
  obtain ⟨rfl, rfl⟩ := H
  go_enter Tryz.func141, Tryz.ntmps141
  go_wp2_with (first | ((with_reducible refine gate_dst (N := 2) rfl ?_); refine bxe (N := 2) (cs := #[.int .i64 a0_0, .int .i64 a0_1]) (t := 25) ?_; intro gb206 hg w6 hbox hb; have BK206 := Sd.mk hbox; have GW206 := bge w hg; have GE206 := bge w hg; replace HB := bsq w hb; clear hb hbox hg) | ((with_reducible refine gate_dst (N := 3) rfl ?_); refine bxe (N := 3) (cs := #[.int .i64 a1_0, .int .i64 a1_1]) (t := 25) ?_; intro gb207 hg w7 hbox hb; have BK207 := Sd.mk hbox; have GW207 := bge w hg; have GE207 := bge w hg; have NB206_207 := bnl BK206 hg; have NB207_206 := bng BK206 hg; replace BK206 := bkb BK206 hb; replace HB := bsq w hb; clear hb hbox hg) | ((with_reducible refine gate_dst (N := 4) rfl ?_); refine bxe (N := 4) (cs := #[.int .i64 0, .int .i64 0]) (t := 25) ?_; intro gb208 hg w8 hbox hb; have BK208 := Sd.mk hbox; have GW208 := bge w hg; have GE208 := bge w hg; have NB206_208 := bnl BK206 hg; have NB208_206 := bng BK206 hg; have NB207_208 := bnl BK207 hg; have NB208_207 := bng BK207 hg; replace BK206 := bkb BK206 hb; replace BK207 := bkb BK207 hb; replace HB := bsq w hb; clear hb hbox hg; have hnb9 := NB206_207.out; have hnc9 := NB207_206.out; have hnb10 := NB206_208.out; have hnc10 := NB208_206.out; have hcz11_0 := bz0 BK206; have hcz11_1 := bz1 BK206; have hfz11_0 := blk_frozen BK206.out 0; have hfz11_1 := blk_frozen BK206.out 1) | ((with_reducible refine gate_callee (f := 117) rfl ?_); refine goesL_ (some 6) rfl rfl Tryz.func117 (by kernel_rfl) rfl #[.agg #[.int .i64 a0_0, .int .i64 a0_1]] rfl ma ?_; (with_reducible refine (v_True.calls a0_0 a0_1 true _ A3.out).mono ?_); rintro e w12 ⟨rfl, hb⟩; refine ⟨_, rfl, ?_⟩; replace BK206 := bkb BK206 hb; replace BK207 := bkb BK207 hb; replace BK208 := bkb BK208 hb; replace HB := bsq w hb; (try clear hb)) | ((with_reducible refine gate_callee (f := 124) rfl ?_); refine goesL_ (some 11) rfl rfl Tryz.func124 (by kernel_rfl) rfl #[.bool true] rfl ma ?_; (with_reducible refine (v_Truth.calls true t210 t211 _ A5.out).mono ?_); rintro e w13 ⟨rfl, hb⟩; refine ⟨_, rfl, ?_⟩; replace BK206 := bkb BK206 hb; replace BK207 := bkb BK207 hb; replace BK208 := bkb BK208 hb; replace HB := bsq w hb; (try clear hb); have hnb14 := NB208_207.out; have hnc14 := NB207_208.out; have hcz15_0 := bz0 BK208; have hcz15_1 := bz1 BK208; have hfz15_0 := blk_frozen BK208.out 0; have hfz15_1 := blk_frozen BK208.out 1))
  refine bodyPost_ret (results_cell_row rfl _ _ gb208 25 #[.int .i64 t210, .int .i64 t211] (0, 0) _ rfl (by (repeat refine dw ?_); refine blk_put (cs := #[.int .i64 t210, .int .i64 0]) ?_ 1 _ rfl; (repeat refine dw ?_); refine blk_put (cs := #[.int .i64 0, .int .i64 0]) ?_ 0 _ rfl; (repeat refine dw ?_); exact BK208.out) Tryz.underlying25 rfl (by kernel_rfl)) rfl ?_
  exact ⟨fe, bbl⟩
 ·replace c4 := Bool.eq_false_iff.mpr c4
  subst c4
  replace H := iF H
  obtain ⟨t212, A16, H⟩ := bnd H
  obtain ⟨⟨t213, t214⟩, A17, H⟩ := bnd H
  replace H : (some (t213, t214)) = some (r1, r2) := H
  simp only [Option.some.injEq, Prod.mk.injEq] at H
  obtain ⟨rfl, rfl⟩ := H
  go_enter Tryz.func141, Tryz.ntmps141
  go_wp2_with (first | ((with_reducible refine gate_dst (N := 2) rfl ?_); refine bxe (N := 2) (cs := #[.int .i64 a0_0, .int .i64 a0_1]) (t := 25) ?_; intro gb206 hg w18 hbox hb; have BK206 := Sd.mk hbox; have GW206 := bge w hg; have GE206 := bge w hg; replace HB := bsq w hb; clear hb hbox hg) | ((with_reducible refine gate_dst (N := 3) rfl ?_); refine bxe (N := 3) (cs := #[.int .i64 a1_0, .int .i64 a1_1]) (t := 25) ?_; intro gb207 hg w19 hbox hb; have BK207 := Sd.mk hbox; have GW207 := bge w hg; have GE207 := bge w hg; have NB206_207 := bnl BK206 hg; have NB207_206 := bng BK206 hg; replace BK206 := bkb BK206 hb; replace HB := bsq w hb; clear hb hbox hg) | ((with_reducible refine gate_dst (N := 4) rfl ?_); refine bxe (N := 4) (cs := #[.int .i64 0, .int .i64 0]) (t := 25) ?_; intro gb208 hg w20 hbox hb; have BK208 := Sd.mk hbox; have GW208 := bge w hg; have GE208 := bge w hg; have NB206_208 := bnl BK206 hg; have NB208_206 := bng BK206 hg; have NB207_208 := bnl BK207 hg; have NB208_207 := bng BK207 hg; replace BK206 := bkb BK206 hb; replace BK207 := bkb BK207 hb; replace HB := bsq w hb; clear hb hbox hg; have hnb21 := NB206_207.out; have hnc21 := NB207_206.out; have hnb22 := NB206_208.out; have hnc22 := NB208_206.out; have hcz23_0 := bz0 BK206; have hcz23_1 := bz1 BK206; have hfz23_0 := blk_frozen BK206.out 0; have hfz23_1 := blk_frozen BK206.out 1) | ((with_reducible refine gate_callee (f := 117) rfl ?_); refine goesL_ (some 6) rfl rfl Tryz.func117 (by kernel_rfl) rfl #[.agg #[.int .i64 a0_0, .int .i64 a0_1]] rfl ma ?_; (with_reducible refine (v_True.calls a0_0 a0_1 false _ A3.out).mono ?_); rintro e w24 ⟨rfl, hb⟩; refine ⟨_, rfl, ?_⟩; replace BK206 := bkb BK206 hb; replace BK207 := bkb BK207 hb; replace BK208 := bkb BK208 hb; replace HB := bsq w hb; (try clear hb); have hnb25 := NB207_208.out; have hnc25 := NB208_207.out; have hcz26_0 := bz0 BK207; have hcz26_1 := bz1 BK207; have hfz26_0 := blk_frozen BK207.out 0; have hfz26_1 := blk_frozen BK207.out 1) | (go_at_call 117; (with_reducible refine (v_True.calls a1_0 a1_1 t212 _ A16.out).mono ?_); rintro e w27 ⟨rfl, hb⟩; replace BK206 := bkb BK206 hb; replace BK207 := bkb BK207 hb; replace BK208 := bkb BK208 hb; replace HB := bsq w hb; (try clear hb)) | ((with_reducible refine gate_callee (f := 124) rfl ?_); refine goesL_ (some 11) rfl rfl Tryz.func124 (by kernel_rfl) rfl #[.bool t212] rfl ma ?_; (with_reducible refine (v_Truth.calls t212 t213 t214 _ A17.out).mono ?_); rintro e w28 ⟨rfl, hb⟩; refine ⟨_, rfl, ?_⟩; replace BK206 := bkb BK206 hb; replace BK207 := bkb BK207 hb; replace BK208 := bkb BK208 hb; replace HB := bsq w hb; (try clear hb); have hcz29_0 := bz0 BK208; have hcz29_1 := bz1 BK208; have hfz29_0 := blk_frozen BK208.out 0; have hfz29_1 := blk_frozen BK208.out 1))
  refine bodyPost_ret (results_cell_row rfl _ _ gb208 25 #[.int .i64 t213, .int .i64 t214] (0, 0) _ rfl (by (repeat refine dw ?_); refine blk_put (cs := #[.int .i64 t213, .int .i64 0]) ?_ 1 _ rfl; (repeat refine dw ?_); refine blk_put (cs := #[.int .i64 0, .int .i64 0]) ?_ 0 _ rfl; (repeat refine dw ?_); exact BK208.out) Tryz.underlying25 rfl (by kernel_rfl)) rfl ?_
  exact ⟨fe, bbl⟩
def v_is.f (a0_0 : Int) (a0_1 : Int) : Option (Bool) := if a0_0 = 1 then (if a0_1 ≥ (-1000000000000000) then (some (decide (a0_1 ≤ 1000000000000000))) else (some false)) else (if a0_0 = 2 then (some (a0_1 == 0)) else (if a0_0 = 3 then (some (a0_1 == 0)) else (if a0_0 = 4 then (some (a0_1 == 0)) else (if a0_0 = 5 then (some (a0_1 == 0)) else (some false)))))
theorem v_is.calls (a0_0 : Int) (a0_1 : Int) (r : Bool) (w : World) (h : v_is.f a0_0 a0_1 = some r) :
  Calls Tryz.prog 75 #[.agg #[.int .i64 a0_0, .int .i64 a0_1]] w fun e w' => e = .returned (.bool r) ∧ Below w.heap.size w w' := by
 have hu25 := Tryz.underlying25
 have HB := Sd.mk (Below.refl w.heap.size w)
 have H : (if a0_0 = 1 then (if a0_1 ≥ (-1000000000000000) then (some (decide (a0_1 ≤ 1000000000000000))) else (some false)) else (if a0_0 = 2 then (some (a0_1 == 0)) else (if a0_0 = 3 then (some (a0_1 == 0)) else (if a0_0 = 4 then (some (a0_1 == 0)) else (if a0_0 = 5 then (some (a0_1 == 0)) else (some false)))))) = some r := h
 clear h
 by_cases c2 : a0_0 = 1
 ·rw [if_pos c2] at H
  have c2b0 := beq_iff_eq.mpr c2
  have c2b1 := bne_eq_false_iff_eq.mpr c2
  clear c2
  by_cases c3 : a0_1 ≥ (-1000000000000000)
  ·rw [if_pos c3] at H
   have c3b0 : decide ((-1000000000000000) ≤ a0_1) = true := decide_eq_true c3
   clear c3
   obtain rfl := Option.some.inj H
   go_enter Tryz.func75, Tryz.ntmps75
   go_wp2_with (first | ((with_reducible refine gate_dst (N := 1) rfl ?_); refine bxe (N := 1) (cs := #[.int .i64 a0_0, .int .i64 a0_1]) (t := 25) ?_; intro gb215 hg w4 hbox hb; have BK215 := Sd.mk hbox; have GW215 := bge w hg; have GE215 := bge w hg; replace HB := bsq w hb; clear hb hbox hg; have hcz5_0 := bz0 BK215; have hcz5_1 := bz1 BK215; have hfz5_0 := blk_frozen BK215.out 0; have hfz5_1 := blk_frozen BK215.out 1))
   go_ret
   exact ⟨fe, bbl⟩
  ·rw [if_neg c3] at H
   have c3b0 : decide ((-1000000000000000) ≤ a0_1) = false := decide_eq_false c3
   clear c3
   obtain rfl := Option.some.inj H
   go_enter Tryz.func75, Tryz.ntmps75
   go_wp2_with (first | ((with_reducible refine gate_dst (N := 1) rfl ?_); refine bxe (N := 1) (cs := #[.int .i64 a0_0, .int .i64 a0_1]) (t := 25) ?_; intro gb215 hg w6 hbox hb; have BK215 := Sd.mk hbox; have GW215 := bge w hg; have GE215 := bge w hg; replace HB := bsq w hb; clear hb hbox hg; have hcz7_0 := bz0 BK215; have hcz7_1 := bz1 BK215; have hfz7_0 := blk_frozen BK215.out 0; have hfz7_1 := blk_frozen BK215.out 1))
   go_ret
   exact ⟨fe, bbl⟩
 ·rw [if_neg c2] at H
  have c2b0 := beq_eq_false_iff_ne.mpr c2
  have c2b1 := bne_iff_ne.mpr c2
  by_cases c8 : a0_0 = 2
  ·rw [if_pos c8] at H
   have c8b0 := beq_iff_eq.mpr c8
   have c8b1 := bne_eq_false_iff_eq.mpr c8
   clear c8
   obtain rfl := Option.some.inj H
   go_enter Tryz.func75, Tryz.ntmps75
   go_wp2_with (first | ((with_reducible refine gate_dst (N := 1) rfl ?_); refine bxe (N := 1) (cs := #[.int .i64 a0_0, .int .i64 a0_1]) (t := 25) ?_; intro gb215 hg w9 hbox hb; have BK215 := Sd.mk hbox; have GW215 := bge w hg; have GE215 := bge w hg; replace HB := bsq w hb; clear hb hbox hg; have hcz10_0 := bz0 BK215; have hcz10_1 := bz1 BK215; have hfz10_0 := blk_frozen BK215.out 0; have hfz10_1 := blk_frozen BK215.out 1))
   go_ret
   exact ⟨fe, bbl⟩
  ·rw [if_neg c8] at H
   have c8b0 := beq_eq_false_iff_ne.mpr c8
   have c8b1 := bne_iff_ne.mpr c8
   by_cases c11 : a0_0 = 3
   ·rw [if_pos c11] at H
    have c11b0 := beq_iff_eq.mpr c11
    have c11b1 := bne_eq_false_iff_eq.mpr c11
    clear c11
    obtain rfl := Option.some.inj H
    go_enter Tryz.func75, Tryz.ntmps75
    go_wp2_with (first | ((with_reducible refine gate_dst (N := 1) rfl ?_); refine bxe (N := 1) (cs := #[.int .i64 a0_0, .int .i64 a0_1]) (t := 25) ?_; intro gb215 hg w12 hbox hb; have BK215 := Sd.mk hbox; have GW215 := bge w hg; have GE215 := bge w hg; replace HB := bsq w hb; clear hb hbox hg; have hcz13_0 := bz0 BK215; have hcz13_1 := bz1 BK215; have hfz13_0 := blk_frozen BK215.out 0; have hfz13_1 := blk_frozen BK215.out 1))
    go_ret
    exact ⟨fe, bbl⟩
   ·rw [if_neg c11] at H
    have c11b0 := beq_eq_false_iff_ne.mpr c11
    have c11b1 := bne_iff_ne.mpr c11
    by_cases c14 : a0_0 = 4
    ·rw [if_pos c14] at H
     have c14b0 := beq_iff_eq.mpr c14
     have c14b1 := bne_eq_false_iff_eq.mpr c14
     clear c14
     obtain rfl := Option.some.inj H
     go_enter Tryz.func75, Tryz.ntmps75
     go_wp2_with (first | ((with_reducible refine gate_dst (N := 1) rfl ?_); refine bxe (N := 1) (cs := #[.int .i64 a0_0, .int .i64 a0_1]) (t := 25) ?_; intro gb215 hg w15 hbox hb; have BK215 := Sd.mk hbox; have GW215 := bge w hg; have GE215 := bge w hg; replace HB := bsq w hb; clear hb hbox hg; have hcz16_0 := bz0 BK215; have hcz16_1 := bz1 BK215; have hfz16_0 := blk_frozen BK215.out 0; have hfz16_1 := blk_frozen BK215.out 1))
     go_ret
     exact ⟨fe, bbl⟩
    ·rw [if_neg c14] at H
     have c14b0 := beq_eq_false_iff_ne.mpr c14
     have c14b1 := bne_iff_ne.mpr c14
     by_cases c17 : a0_0 = 5
     ·rw [if_pos c17] at H
      have c17b0 := beq_iff_eq.mpr c17
      have c17b1 := bne_eq_false_iff_eq.mpr c17
      clear c17
      obtain rfl := Option.some.inj H
      go_enter Tryz.func75, Tryz.ntmps75
      go_wp2_with (first | ((with_reducible refine gate_dst (N := 1) rfl ?_); refine bxe (N := 1) (cs := #[.int .i64 a0_0, .int .i64 a0_1]) (t := 25) ?_; intro gb215 hg w18 hbox hb; have BK215 := Sd.mk hbox; have GW215 := bge w hg; have GE215 := bge w hg; replace HB := bsq w hb; clear hb hbox hg; have hcz19_0 := bz0 BK215; have hcz19_1 := bz1 BK215; have hfz19_0 := blk_frozen BK215.out 0; have hfz19_1 := blk_frozen BK215.out 1))
      go_ret
      exact ⟨fe, bbl⟩
     ·rw [if_neg c17] at H
      have c17b0 := beq_eq_false_iff_ne.mpr c17
      have c17b1 := bne_iff_ne.mpr c17
      obtain rfl := Option.some.inj H
      go_enter Tryz.func75, Tryz.ntmps75
      go_wp2_with (first | ((with_reducible refine gate_dst (N := 1) rfl ?_); refine bxe (N := 1) (cs := #[.int .i64 a0_0, .int .i64 a0_1]) (t := 25) ?_; intro gb215 hg w20 hbox hb; have BK215 := Sd.mk hbox; have GW215 := bge w hg; have GE215 := bge w hg; replace HB := bsq w hb; clear hb hbox hg; have hcz21_0 := bz0 BK215; have hcz21_1 := bz1 BK215; have hfz21_0 := blk_frozen BK215.out 0; have hfz21_1 := blk_frozen BK215.out 1))
      go_ret
      exact ⟨fe, bbl⟩
def v_Check_1.f (a0_0 : Int) (a0_1 : Int) : Option (Bool) := (v_is.f a0_0 a0_1).bind fun t217 => (some (!t217))
theorem v_Check_1.calls (a0_0 : Int) (a0_1 : Int) (r : Bool) (w : World) (h : v_Check_1.f a0_0 a0_1 = some r) :
  Calls Tryz.prog 74 #[.agg #[.int .i64 a0_0, .int .i64 a0_1]] w fun e w' => e = .returned (.bool r) ∧ Below w.heap.size w w' := by
 have hu25 := Tryz.underlying25
 have HB := Sd.mk (Below.refl w.heap.size w)
 have H : ((v_is.f a0_0 a0_1).bind fun t217 => (some (!t217))) = some r := h
 clear h
 obtain ⟨t217, A2, H⟩ := bnd H
 obtain rfl := Option.some.inj H
 go_enter Tryz.func74, Tryz.ntmps74
 go_wp2_with (first | ((with_reducible refine gate_dst (N := 1) rfl ?_); refine bxe (N := 1) (cs := #[.int .i64 a0_0, .int .i64 a0_1]) (t := 25) ?_; intro gb216 hg w3 hbox hb; have BK216 := Sd.mk hbox; have GW216 := bge w hg; have GE216 := bge w hg; replace HB := bsq w hb; clear hb hbox hg; have hcz4_0 := bz0 BK216; have hcz4_1 := bz1 BK216; have hfz4_0 := blk_frozen BK216.out 0; have hfz4_1 := blk_frozen BK216.out 1) | ((with_reducible refine gate_callee (f := 75) rfl ?_); refine goesL_ (some 4) rfl rfl Tryz.func75 (by kernel_rfl) rfl #[.agg #[.int .i64 a0_0, .int .i64 a0_1]] rfl ma ?_; (with_reducible refine (v_is.calls a0_0 a0_1 t217 _ A2.out).mono ?_); rintro e w5 ⟨rfl, hb⟩; refine ⟨_, rfl, ?_⟩; replace BK216 := bkb BK216 hb; replace HB := bsq w hb; (try clear hb)))
 go_ret
 exact ⟨fe, bbl⟩
def r8_Is.f (a0_0 : Int) (a0_1 : Int) : Option (Bool) := if a0_0 = 1 then (if a0_1 ≥ (-1000000000000000) then (some (decide (a0_1 ≤ 1000000000000000))) else (some false)) else (if a0_0 ≥ 2 then (if a0_0 ≤ 5 then (some (a0_1 == 0)) else (some false)) else (some false))
theorem r8_Is.calls (a0_0 : Int) (a0_1 : Int) (r : Bool) (w : World) (h : r8_Is.f a0_0 a0_1 = some r) :
  Calls Tryz.prog 18 #[.agg #[.int .i64 a0_0, .int .i64 a0_1]] w fun e w' => e = .returned (.bool r) ∧ Below w.heap.size w w' := by
 have hu25 := Tryz.underlying25
 have HB := Sd.mk (Below.refl w.heap.size w)
 have H : (if a0_0 = 1 then (if a0_1 ≥ (-1000000000000000) then (some (decide (a0_1 ≤ 1000000000000000))) else (some false)) else (if a0_0 ≥ 2 then (if a0_0 ≤ 5 then (some (a0_1 == 0)) else (some false)) else (some false))) = some r := h
 clear h
 by_cases c2 : a0_0 = 1
 ·rw [if_pos c2] at H
  have c2b0 := beq_iff_eq.mpr c2
  have c2b1 := bne_eq_false_iff_eq.mpr c2
  clear c2
  by_cases c3 : a0_1 ≥ (-1000000000000000)
  ·rw [if_pos c3] at H
   have c3b0 : decide ((-1000000000000000) ≤ a0_1) = true := decide_eq_true c3
   clear c3
   obtain rfl := Option.some.inj H
   go_enter Tryz.func18, Tryz.ntmps18
   go_wp2_with (first | ((with_reducible refine gate_dst (N := 1) rfl ?_); refine bxe (N := 1) (cs := #[.int .i64 a0_0, .int .i64 a0_1]) (t := 25) ?_; intro gb218 hg w4 hbox hb; have BK218 := Sd.mk hbox; have GW218 := bge w hg; have GE218 := bge w hg; replace HB := bsq w hb; clear hb hbox hg; have hcz5_0 := bz0 BK218; have hcz5_1 := bz1 BK218; have hfz5_0 := blk_frozen BK218.out 0; have hfz5_1 := blk_frozen BK218.out 1))
   go_ret
   exact ⟨fe, bbl⟩
  ·rw [if_neg c3] at H
   have c3b0 : decide ((-1000000000000000) ≤ a0_1) = false := decide_eq_false c3
   clear c3
   obtain rfl := Option.some.inj H
   go_enter Tryz.func18, Tryz.ntmps18
   go_wp2_with (first | ((with_reducible refine gate_dst (N := 1) rfl ?_); refine bxe (N := 1) (cs := #[.int .i64 a0_0, .int .i64 a0_1]) (t := 25) ?_; intro gb218 hg w6 hbox hb; have BK218 := Sd.mk hbox; have GW218 := bge w hg; have GE218 := bge w hg; replace HB := bsq w hb; clear hb hbox hg; have hcz7_0 := bz0 BK218; have hcz7_1 := bz1 BK218; have hfz7_0 := blk_frozen BK218.out 0; have hfz7_1 := blk_frozen BK218.out 1))
   go_ret
   exact ⟨fe, bbl⟩
 ·rw [if_neg c2] at H
  have c2b0 := beq_eq_false_iff_ne.mpr c2
  have c2b1 := bne_iff_ne.mpr c2
  by_cases c8 : a0_0 ≥ 2
  ·rw [if_pos c8] at H
   have c8b0 : decide (2 ≤ a0_0) = true := decide_eq_true c8
   clear c8
   by_cases c9 : a0_0 ≤ 5
   ·rw [if_pos c9] at H
    have c9b0 : decide (a0_0 ≤ 5) = true := decide_eq_true c9
    clear c9
    obtain rfl := Option.some.inj H
    go_enter Tryz.func18, Tryz.ntmps18
    go_wp2_with (first | ((with_reducible refine gate_dst (N := 1) rfl ?_); refine bxe (N := 1) (cs := #[.int .i64 a0_0, .int .i64 a0_1]) (t := 25) ?_; intro gb218 hg w10 hbox hb; have BK218 := Sd.mk hbox; have GW218 := bge w hg; have GE218 := bge w hg; replace HB := bsq w hb; clear hb hbox hg; have hcz11_0 := bz0 BK218; have hcz11_1 := bz1 BK218; have hfz11_0 := blk_frozen BK218.out 0; have hfz11_1 := blk_frozen BK218.out 1))
    go_ret
    exact ⟨fe, bbl⟩
   ·rw [if_neg c9] at H
    have c9b0 : decide (a0_0 ≤ 5) = false := decide_eq_false c9
    clear c9
    obtain rfl := Option.some.inj H
    go_enter Tryz.func18, Tryz.ntmps18
    go_wp2_with (first | ((with_reducible refine gate_dst (N := 1) rfl ?_); refine bxe (N := 1) (cs := #[.int .i64 a0_0, .int .i64 a0_1]) (t := 25) ?_; intro gb218 hg w12 hbox hb; have BK218 := Sd.mk hbox; have GW218 := bge w hg; have GE218 := bge w hg; replace HB := bsq w hb; clear hb hbox hg; have hcz13_0 := bz0 BK218; have hcz13_1 := bz1 BK218; have hfz13_0 := blk_frozen BK218.out 0; have hfz13_1 := blk_frozen BK218.out 1))
    go_ret
    exact ⟨fe, bbl⟩
  ·rw [if_neg c8] at H
   have c8b0 : decide (2 ≤ a0_0) = false := decide_eq_false c8
   clear c8
   obtain rfl := Option.some.inj H
   go_enter Tryz.func18, Tryz.ntmps18
   go_wp2_with (first | ((with_reducible refine gate_dst (N := 1) rfl ?_); refine bxe (N := 1) (cs := #[.int .i64 a0_0, .int .i64 a0_1]) (t := 25) ?_; intro gb218 hg w14 hbox hb; have BK218 := Sd.mk hbox; have GW218 := bge w hg; have GE218 := bge w hg; replace HB := bsq w hb; clear hb hbox hg; have hcz15_0 := bz0 BK218; have hcz15_1 := bz1 BK218; have hfz15_0 := blk_frozen BK218.out 0; have hfz15_1 := blk_frozen BK218.out 1))
   go_ret
   exact ⟨fe, bbl⟩
def r8_Check.l0 : Nat → List (S25) → Int → Option (Int)
 | 0, _, _ => none
 | k + 1, x0, x3 => if x3 < (x0.length : Int) then (if 0 ≤ x3 then ((r8_Is.f ((rd_T25 x0 x3).f0) ((rd_T25 x0 x3).f1)).bind fun t220 => (if t220 = true then (r8_Check.l0 k x0 (wrap64 (x3 + 1))) else (some 80))) else (none)) else (some 0)
def r8_Check.f (k : Nat) (l0 : List (S25)) : Option (Int) := r8_Check.l0 k l0 0
theorem r8_Check.calls (k : Nat) (A0 : Option Addr) (c0 : Nat) (l0 : List (S25)) (r : Int) (w : World) (hr0 : Kd.C k25 w A0 l0.length l0) (hc0 : l0.length ≤ c0) (h : r8_Check.f k l0 = some r) :
  Calls Tryz.prog 59 #[.slice A0 l0.length c0] w fun e w' => e = .returned (.int .i64 r) ∧ Below w.heap.size w w' := by
 have hu25 := Tryz.underlying25
 have HR0 := Sd.mk hr0
 have HC0 := Sd.mk hc0
 clear hr0 hc0
 have HB := Sd.mk (Below.refl w.heap.size w)
 have H : (r8_Check.l0 k l0 0) = some r := h
 clear h
 have H' := Sd.mk H
 clear H
 go_enter Tryz.func59, Tryz.ntmps59
 go_wp2
 go_loopg [3] k (fun kq v3 w' => ∃ (x3_1 : Int), v3 = .int .i64 x3_1 ∧ Sd (r8_Check.l0 kq l0 x3_1 = some r) ∧ Sd (kq ≤ k) ∧ Sd (Below w.heap.size w w'))
 case atStart => exact ⟨(0), ae, H', ⟨Nat.le_refl _⟩, ⟨bbl⟩⟩
 case round =>
  clear H'
  obtain ⟨x3_1, rfl, HA, HK1, HB⟩ := hrel
  cases gk with
  | zero => exact absurd HA.out (by simp [r8_Check.l0])
  | succ k1 =>
   have H := HA.out
   clear HA
   simp only [r8_Check.l0] at H
   by_cases c2 : x3_1 < (l0.length : Int)
   ·rw [if_pos c2] at H
    have c2b0 : decide (x3_1 < (l0.length : Int)) = true := decide_eq_true c2
    clear c2
    by_cases c3 : 0 ≤ x3_1
    ·rw [if_pos c3] at H
     have c3b0 : decide (0 ≤ x3_1) = true := decide_eq_true c3
     clear c3
     obtain ⟨t220, A4, H⟩ := bnd H
     by_cases c5 : t220 = true
     ·subst c5
      replace H := iT H
      have H' := Sd.mk H
      clear H
      have p219 : 0 ≤ (x3_1 : Int) := ode
      have q219 : x3_1 < (l0.length : Int) := ode
      obtain ⟨ad219, e219, hx219_0, hx219_1⟩ := at_T25 HR0.out x3_1 p219 q219
      cases e219
      replace hx219_0 := hxc HB hx219_0
      replace hx219_1 := hxc HB hx219_1
      replace p219 := eq_true p219
      replace q219 := eq_true q219
      go_wp2_with (first | ((with_reducible refine gate_callee (f := 18) rfl ?_); refine goesL_ (some 14) rfl rfl Tryz.func18 (by kernel_rfl) rfl #[.agg #[.int .i64 ((rd_T25 l0 x3_1).f0), .int .i64 ((rd_T25 l0 x3_1).f1)]] rfl ma ?_; (with_reducible refine (r8_Is.calls ((rd_T25 l0 x3_1).f0) ((rd_T25 l0 x3_1).f1) true _ A4.out).mono ?_); rintro e w6 ⟨rfl, hb⟩; refine ⟨_, rfl, ?_⟩; replace HB := bsq w hb; (try clear hb)))
      go_roundg k1
      case measure => have := HK1.out; omega
      case rel => exact ⟨(wrap64 (x3_1 + 1)), ae, H', ⟨by have := HK1.out; omega⟩, ⟨bbl⟩⟩
     ·replace c5 := Bool.eq_false_iff.mpr c5
      subst c5
      replace H := iF H
      obtain rfl := Option.some.inj H
      have p219 : 0 ≤ (x3_1 : Int) := ode
      have q219 : x3_1 < (l0.length : Int) := ode
      obtain ⟨ad219, e219, hx219_0, hx219_1⟩ := at_T25 HR0.out x3_1 p219 q219
      cases e219
      replace hx219_0 := hxc HB hx219_0
      replace hx219_1 := hxc HB hx219_1
      replace p219 := eq_true p219
      replace q219 := eq_true q219
      go_wp2_with (first | ((with_reducible refine gate_callee (f := 18) rfl ?_); refine goesL_ (some 14) rfl rfl Tryz.func18 (by kernel_rfl) rfl #[.agg #[.int .i64 ((rd_T25 l0 x3_1).f0), .int .i64 ((rd_T25 l0 x3_1).f1)]] rfl ma ?_; (with_reducible refine (r8_Is.calls ((rd_T25 l0 x3_1).f0) ((rd_T25 l0 x3_1).f1) false _ A4.out).mono ?_); rintro e w7 ⟨rfl, hb⟩; refine ⟨_, rfl, ?_⟩; replace HB := bsq w hb; (try clear hb)))
      go_ret
      exact ⟨fe, bbl⟩
    ·rw [if_neg c3] at H
     exact absurd H (by simp)
   ·rw [if_neg c2] at H
    have c2b0 : decide (x3_1 < (l0.length : Int)) = false := decide_eq_false c2
    clear c2
    obtain rfl := Option.some.inj H
    go_wp2
    go_ret
    exact ⟨fe, bbl⟩
def r8_Plus.f  : Option (Int × Int) := some (4, 0)
theorem r8_Plus.calls  (r1 : Int) (r2 : Int) (w : World) (h : r8_Plus.f  = some (r1, r2)) :
  Calls Tryz.prog 69 #[] w fun e w' => e = .returned (.agg #[.int .i64 r1, .int .i64 r2]) ∧ Below w.heap.size w w' := by
 have hu25 := Tryz.underlying25
 have HB := Sd.mk (Below.refl w.heap.size w)
 have H : (some (4, 0)) = some (r1, r2) := h
 clear h
 simp only [Option.some.injEq, Prod.mk.injEq] at H
 obtain ⟨rfl, rfl⟩ := H
 go_enter Tryz.func69, Tryz.ntmps69
 go_wp2_with (first | ((with_reducible refine gate_dst (N := 0) rfl ?_); refine bxe (N := 0) (cs := #[.int .i64 0, .int .i64 0]) (t := 25) ?_; intro gb221 hg w1 hbox hb; have BK221 := Sd.mk hbox; have GW221 := bge w hg; have GE221 := bge w hg; replace HB := bsq w hb; clear hb hbox hg; have hcz2_0 := bz0 BK221; have hcz2_1 := bz1 BK221; have hfz2_0 := blk_frozen BK221.out 0; have hfz2_1 := blk_frozen BK221.out 1))
 refine bodyPost_ret (results_cell_row rfl _ _ gb221 25 #[.int .i64 4, .int .i64 0] (0, 0) _ rfl (by (repeat refine dw ?_); refine blk_put (cs := #[.int .i64 4, .int .i64 0]) ?_ 1 _ rfl; (repeat refine dw ?_); refine blk_put (cs := #[.int .i64 0, .int .i64 0]) ?_ 0 _ rfl; (repeat refine dw ?_); exact BK221.out) Tryz.underlying25 rfl (by kernel_rfl)) rfl ?_
 exact ⟨fe, bbl⟩
def r8_Minus.f  : Option (Int × Int) := some (5, 0)
theorem r8_Minus.calls  (r1 : Int) (r2 : Int) (w : World) (h : r8_Minus.f  = some (r1, r2)) :
  Calls Tryz.prog 70 #[] w fun e w' => e = .returned (.agg #[.int .i64 r1, .int .i64 r2]) ∧ Below w.heap.size w w' := by
 have hu25 := Tryz.underlying25
 have HB := Sd.mk (Below.refl w.heap.size w)
 have H : (some (5, 0)) = some (r1, r2) := h
 clear h
 simp only [Option.some.injEq, Prod.mk.injEq] at H
 obtain ⟨rfl, rfl⟩ := H
 go_enter Tryz.func70, Tryz.ntmps70
 go_wp2_with (first | ((with_reducible refine gate_dst (N := 0) rfl ?_); refine bxe (N := 0) (cs := #[.int .i64 0, .int .i64 0]) (t := 25) ?_; intro gb222 hg w1 hbox hb; have BK222 := Sd.mk hbox; have GW222 := bge w hg; have GE222 := bge w hg; replace HB := bsq w hb; clear hb hbox hg; have hcz2_0 := bz0 BK222; have hcz2_1 := bz1 BK222; have hfz2_0 := blk_frozen BK222.out 0; have hfz2_1 := blk_frozen BK222.out 1))
 refine bodyPost_ret (results_cell_row rfl _ _ gb222 25 #[.int .i64 5, .int .i64 0] (0, 0) _ rfl (by (repeat refine dw ?_); refine blk_put (cs := #[.int .i64 5, .int .i64 0]) ?_ 1 _ rfl; (repeat refine dw ?_); refine blk_put (cs := #[.int .i64 0, .int .i64 0]) ?_ 0 _ rfl; (repeat refine dw ?_); exact BK222.out) Tryz.underlying25 rfl (by kernel_rfl)) rfl ?_
 exact ⟨fe, bbl⟩
def r8_Num.f (a0 : Int) : Option (Int × Int) := if a0 > 1000000000000000 then ((r8_Plus.f).bind fun bt224 => (some (bt224.1, bt224.2))) else (if a0 < (-1000000000000000) then ((r8_Minus.f).bind fun bt226 => (some (bt226.1, bt226.2))) else (some (1, a0)))
theorem r8_Num.calls (a0 : Int) (r1 : Int) (r2 : Int) (w : World) (h : r8_Num.f a0 = some (r1, r2)) :
  Calls Tryz.prog 27 #[.int .i64 a0] w fun e w' => e = .returned (.agg #[.int .i64 r1, .int .i64 r2]) ∧ Below w.heap.size w w' := by
 have hu25 := Tryz.underlying25
 have HB := Sd.mk (Below.refl w.heap.size w)
 have H : (if a0 > 1000000000000000 then ((r8_Plus.f).bind fun bt224 => (some (bt224.1, bt224.2))) else (if a0 < (-1000000000000000) then ((r8_Minus.f).bind fun bt226 => (some (bt226.1, bt226.2))) else (some (1, a0)))) = some (r1, r2) := h
 clear h
 by_cases c2 : a0 > 1000000000000000
 ·rw [if_pos c2] at H
  have c2b0 : decide (1000000000000000 < a0) = true := decide_eq_true c2
  clear c2
  obtain ⟨⟨t224, t225⟩, A3, H⟩ := bnd H
  replace H : (some (t224, t225)) = some (r1, r2) := H
  simp only [Option.some.injEq, Prod.mk.injEq] at H
  obtain ⟨rfl, rfl⟩ := H
  go_enter Tryz.func27, Tryz.ntmps27
  go_wp2_with (first | ((with_reducible refine gate_dst (N := 2) rfl ?_); refine bxe (N := 2) (cs := #[.int .i64 0, .int .i64 0]) (t := 25) ?_; intro gb223 hg w4 hbox hb; have BK223 := Sd.mk hbox; have GW223 := bge w hg; have GE223 := bge w hg; replace HB := bsq w hb; clear hb hbox hg) | ((with_reducible refine gate_callee (f := 69) rfl ?_); refine goesL_ (some 5) rfl rfl Tryz.func69 (by kernel_rfl) rfl #[] rfl ma ?_; (with_reducible refine (r8_Plus.calls  t224 t225 _ A3.out).mono ?_); rintro e w5 ⟨rfl, hb⟩; refine ⟨_, rfl, ?_⟩; replace BK223 := bkb BK223 hb; replace HB := bsq w hb; (try clear hb); have hcz6_0 := bz0 BK223; have hcz6_1 := bz1 BK223; have hfz6_0 := blk_frozen BK223.out 0; have hfz6_1 := blk_frozen BK223.out 1))
  refine bodyPost_ret (results_cell_row rfl _ _ gb223 25 #[.int .i64 t224, .int .i64 t225] (0, 0) _ rfl (by (repeat refine dw ?_); refine blk_put (cs := #[.int .i64 t224, .int .i64 0]) ?_ 1 _ rfl; (repeat refine dw ?_); refine blk_put (cs := #[.int .i64 0, .int .i64 0]) ?_ 0 _ rfl; (repeat refine dw ?_); exact BK223.out) Tryz.underlying25 rfl (by kernel_rfl)) rfl ?_
  exact ⟨fe, bbl⟩
 ·rw [if_neg c2] at H
  have c2b0 : decide (1000000000000000 < a0) = false := decide_eq_false c2
  clear c2
  by_cases c7 : a0 < (-1000000000000000)
  ·rw [if_pos c7] at H
   have c7b0 : decide (a0 < (-1000000000000000)) = true := decide_eq_true c7
   clear c7
   obtain ⟨⟨t226, t227⟩, A8, H⟩ := bnd H
   replace H : (some (t226, t227)) = some (r1, r2) := H
   simp only [Option.some.injEq, Prod.mk.injEq] at H
   obtain ⟨rfl, rfl⟩ := H
   go_enter Tryz.func27, Tryz.ntmps27
   go_wp2_with (first | ((with_reducible refine gate_dst (N := 2) rfl ?_); refine bxe (N := 2) (cs := #[.int .i64 0, .int .i64 0]) (t := 25) ?_; intro gb223 hg w9 hbox hb; have BK223 := Sd.mk hbox; have GW223 := bge w hg; have GE223 := bge w hg; replace HB := bsq w hb; clear hb hbox hg) | ((with_reducible refine gate_callee (f := 70) rfl ?_); refine goesL_ (some 8) rfl rfl Tryz.func70 (by kernel_rfl) rfl #[] rfl ma ?_; (with_reducible refine (r8_Minus.calls  t226 t227 _ A8.out).mono ?_); rintro e w10 ⟨rfl, hb⟩; refine ⟨_, rfl, ?_⟩; replace BK223 := bkb BK223 hb; replace HB := bsq w hb; (try clear hb); have hcz11_0 := bz0 BK223; have hcz11_1 := bz1 BK223; have hfz11_0 := blk_frozen BK223.out 0; have hfz11_1 := blk_frozen BK223.out 1))
   refine bodyPost_ret (results_cell_row rfl _ _ gb223 25 #[.int .i64 t226, .int .i64 t227] (0, 0) _ rfl (by (repeat refine dw ?_); refine blk_put (cs := #[.int .i64 t226, .int .i64 0]) ?_ 1 _ rfl; (repeat refine dw ?_); refine blk_put (cs := #[.int .i64 0, .int .i64 0]) ?_ 0 _ rfl; (repeat refine dw ?_); exact BK223.out) Tryz.underlying25 rfl (by kernel_rfl)) rfl ?_
   exact ⟨fe, bbl⟩
  ·rw [if_neg c7] at H
   have c7b0 : decide (a0 < (-1000000000000000)) = false := decide_eq_false c7
   clear c7
   simp only [Option.some.injEq, Prod.mk.injEq] at H
   obtain ⟨rfl, rfl⟩ := H
   go_enter Tryz.func27, Tryz.ntmps27
   go_wp2_with (first | ((with_reducible refine gate_dst (N := 2) rfl ?_); refine bxe (N := 2) (cs := #[.int .i64 0, .int .i64 0]) (t := 25) ?_; intro gb223 hg w12 hbox hb; have BK223 := Sd.mk hbox; have GW223 := bge w hg; have GE223 := bge w hg; replace HB := bsq w hb; clear hb hbox hg; have hcz13_0 := bz0 BK223; have hcz13_1 := bz1 BK223; have hfz13_0 := blk_frozen BK223.out 0; have hfz13_1 := blk_frozen BK223.out 1))
   refine bodyPost_ret (results_cell_row rfl _ _ gb223 25 #[.int .i64 1, .int .i64 a0] (0, 0) _ rfl (by (repeat refine dw ?_); refine blk_put (cs := #[.int .i64 1, .int .i64 0]) ?_ 1 _ rfl; (repeat refine dw ?_); refine blk_put (cs := #[.int .i64 0, .int .i64 0]) ?_ 0 _ rfl; (repeat refine dw ?_); exact BK223.out) Tryz.underlying25 rfl (by kernel_rfl)) rfl ?_
   exact ⟨fe, bbl⟩
def r8_num.f (a0_0 : Int) (a0_1 : Int) : Option (Bool) := some (a0_0 == 1)
theorem r8_num.calls (a0_0 : Int) (a0_1 : Int) (r : Bool) (w : World) (h : r8_num.f a0_0 a0_1 = some r) :
  Calls Tryz.prog 84 #[.agg #[.int .i64 a0_0, .int .i64 a0_1]] w fun e w' => e = .returned (.bool r) ∧ Below w.heap.size w w' := by
 have hu25 := Tryz.underlying25
 have HB := Sd.mk (Below.refl w.heap.size w)
 have H : (some (a0_0 == 1)) = some r := h
 clear h
 obtain rfl := Option.some.inj H
 go_enter Tryz.func84, Tryz.ntmps84
 go_wp2_with (first | ((with_reducible refine gate_dst (N := 1) rfl ?_); refine bxe (N := 1) (cs := #[.int .i64 a0_0, .int .i64 a0_1]) (t := 25) ?_; intro gb229 hg w2 hbox hb; have BK229 := Sd.mk hbox; have GW229 := bge w hg; have GE229 := bge w hg; replace HB := bsq w hb; clear hb hbox hg; have hcz3_0 := bz0 BK229; have hcz3_1 := bz1 BK229; have hfz3_0 := blk_frozen BK229.out 0; have hfz3_1 := blk_frozen BK229.out 1))
 go_ret
 exact ⟨fe, bbl⟩
def r8_sign.j0 : Nat → Bool → Int → Int → Option (Int)
 | 0, _, _, _ => none
 | k + 1, x3, x236000, x236001 => if x3 = true then (some 1) else (if x236000 = 5 then (some (-1)) else (if x236001 < 0 then (some (-1)) else (some 0)))
def r8_sign.f (k : Nat) (a0_0 : Int) (a0_1 : Int) : Option (Int) := if a0_0 = 4 then (r8_sign.j0 k true a0_0 a0_1) else (r8_sign.j0 k (decide (a0_1 > 0)) a0_0 a0_1)
theorem r8_sign.calls (k : Nat) (a0_0 : Int) (a0_1 : Int) (r : Int) (w : World) (h : r8_sign.f k a0_0 a0_1 = some r) :
  Calls Tryz.prog 96 #[.agg #[.int .i64 a0_0, .int .i64 a0_1]] w fun e w' => e = .returned (.int .i64 r) ∧ Below w.heap.size w w' := by
 have hu25 := Tryz.underlying25
 have HB := Sd.mk (Below.refl w.heap.size w)
 have H : (if a0_0 = 4 then (r8_sign.j0 k true a0_0 a0_1) else (r8_sign.j0 k (decide (a0_1 > 0)) a0_0 a0_1)) = some r := h
 clear h
 have HC2 := Sd.mk H
 clear H
 go_enter Tryz.func96, Tryz.ntmps96
 go_upto_region 1 with (first | ((with_reducible refine gate_dst (N := 1) rfl ?_); refine bxe (N := 1) (cs := #[.int .i64 a0_0, .int .i64 a0_1]) (t := 25) ?_; intro gb235 hg w3 hbox hb; have BK235 := Sd.mk hbox; have GW235 := bge w hg; have GE235 := bge w hg; replace HB := bsq w hb; clear hb hbox hg))
 (try simp only [Act.put, List.setIfInBounds_toArray, List.set_cons_zero, List.set_cons_succ])
 go_cut [3] (fun v3 wc => ∃ (kq : Nat) (x3_1 : Bool), v3 = .bool x3_1 ∧ Sd (r8_sign.j0 kq x3_1 a0_0 a0_1 = some r) ∧ Sd (kq ≤ k) ∧ Sd (wc.heap[gb235]? = some (.cells #[.int .i64 a0_0, .int .i64 a0_1] 25 (0, 0))) ∧ Sd (Below w.heap.size w wc))
 case first =>
  have H := HC2.out
  clear HC2
  by_cases c4 : a0_0 = 4
  ·rw [if_pos c4] at H
   have c4b0 := beq_iff_eq.mpr c4
   have c4b1 := bne_eq_false_iff_eq.mpr c4
   clear c4
   (first | rw [c4b0] | (simp only [i64_w, i32_w]; rw [c4b0]) | skip)
   have H' := Sd.mk H
   clear H
   obtain ⟨hcz5_0, hcz5_1, hfz5_0, hfz5_1⟩ := bz BK235
   go_wp2
   go_meet
   case rel => exact ⟨_, (true), ae, H', ⟨by first | omega | exact Nat.le_refl _⟩, fwK BK235, ⟨bbl⟩⟩
  ·rw [if_neg c4] at H
   have c4b0 := beq_eq_false_iff_ne.mpr c4
   have c4b1 := bne_iff_ne.mpr c4
   (first | rw [c4b0] | (simp only [i64_w, i32_w]; rw [c4b0]) | skip)
   have H' := Sd.mk H
   clear H
   obtain ⟨hcz6_0, hcz6_1, hfz6_0, hfz6_1⟩ := bz BK235
   go_wp2
   go_meet
   case rel => exact ⟨_, (decide (a0_1 > 0)), ae, H', ⟨by first | omega | exact Nat.le_refl _⟩, fwK BK235, ⟨bbl⟩⟩
 case rest =>
  clear HC2
  obtain ⟨kq, x3_1, rfl, HA, HJ1, BK235, HB⟩ := hcut
  cases kq with
  | zero => exact absurd HA.out (by simp [r8_sign.j0])
  | succ kj1 =>
   have H := HA.out
   clear HA
   simp only [r8_sign.j0] at H
   by_cases c7 : x3_1 = true
   ·subst c7
    replace H := iT H
    obtain rfl := Option.some.inj H
    go_wp2
    go_ret
    exact ⟨fe, bbl⟩
   ·replace c7 := Bool.eq_false_iff.mpr c7
    subst c7
    replace H := iF H
    by_cases c8 : a0_0 = 5
    ·rw [if_pos c8] at H
     have c8b0 := beq_iff_eq.mpr c8
     have c8b1 := bne_eq_false_iff_eq.mpr c8
     clear c8
     obtain rfl := Option.some.inj H
     obtain ⟨hcz9_0, hcz9_1, hfz9_0, hfz9_1⟩ := bz BK235
     go_wp2
     go_ret
     exact ⟨fe, bbl⟩
    ·rw [if_neg c8] at H
     have c8b0 := beq_eq_false_iff_ne.mpr c8
     have c8b1 := bne_iff_ne.mpr c8
     by_cases c10 : a0_1 < 0
     ·rw [if_pos c10] at H
      have c10b0 : decide (a0_1 < 0) = true := decide_eq_true c10
      clear c10
      obtain rfl := Option.some.inj H
      obtain ⟨hcz11_0, hcz11_1, hfz11_0, hfz11_1⟩ := bz BK235
      go_wp2
      go_ret
      exact ⟨fe, bbl⟩
     ·rw [if_neg c10] at H
      have c10b0 : decide (a0_1 < 0) = false := decide_eq_false c10
      clear c10
      obtain rfl := Option.some.inj H
      obtain ⟨hcz12_0, hcz12_1, hfz12_0, hfz12_1⟩ := bz BK235
      go_wp2
      go_ret
      exact ⟨fe, bbl⟩
def r8_turned.f (a0_0 : Int) (a0_1 : Int) : Option (Int × Int) := if a0_0 = 4 then ((r8_Minus.f).bind fun bt238 => (some (bt238.1, bt238.2))) else (if a0_0 = 5 then ((r8_Plus.f).bind fun bt240 => (some (bt240.1, bt240.2))) else (some (a0_0, wrap64 (-a0_1))))
theorem r8_turned.calls (a0_0 : Int) (a0_1 : Int) (r1 : Int) (r2 : Int) (w : World) (h : r8_turned.f a0_0 a0_1 = some (r1, r2)) :
  Calls Tryz.prog 97 #[.agg #[.int .i64 a0_0, .int .i64 a0_1]] w fun e w' => e = .returned (.agg #[.int .i64 r1, .int .i64 r2]) ∧ Below w.heap.size w w' := by
 have hu25 := Tryz.underlying25
 have HB := Sd.mk (Below.refl w.heap.size w)
 have H : (if a0_0 = 4 then ((r8_Minus.f).bind fun bt238 => (some (bt238.1, bt238.2))) else (if a0_0 = 5 then ((r8_Plus.f).bind fun bt240 => (some (bt240.1, bt240.2))) else (some (a0_0, wrap64 (-a0_1))))) = some (r1, r2) := h
 clear h
 by_cases c2 : a0_0 = 4
 ·rw [if_pos c2] at H
  have c2b0 := beq_iff_eq.mpr c2
  have c2b1 := bne_eq_false_iff_eq.mpr c2
  clear c2
  obtain ⟨⟨t238, t239⟩, A3, H⟩ := bnd H
  replace H : (some (t238, t239)) = some (r1, r2) := H
  simp only [Option.some.injEq, Prod.mk.injEq] at H
  obtain ⟨rfl, rfl⟩ := H
  go_enter Tryz.func97, Tryz.ntmps97
  go_wp2_with (first | ((with_reducible refine gate_dst (N := 1) rfl ?_); refine bxe (N := 1) (cs := #[.int .i64 a0_0, .int .i64 a0_1]) (t := 25) ?_; intro gb236 hg w4 hbox hb; have BK236 := Sd.mk hbox; have GW236 := bge w hg; have GE236 := bge w hg; replace HB := bsq w hb; clear hb hbox hg) | ((with_reducible refine gate_dst (N := 2) rfl ?_); refine bxe (N := 2) (cs := #[.int .i64 0, .int .i64 0]) (t := 25) ?_; intro gb237 hg w5 hbox hb; have BK237 := Sd.mk hbox; have GW237 := bge w hg; have GE237 := bge w hg; have NB236_237 := bnl BK236 hg; have NB237_236 := bng BK236 hg; replace BK236 := bkb BK236 hb; replace HB := bsq w hb; clear hb hbox hg; have hnb6 := NB236_237.out; have hnc6 := NB237_236.out; have hcz7_0 := bz0 BK236; have hcz7_1 := bz1 BK236; have hfz7_0 := blk_frozen BK236.out 0; have hfz7_1 := blk_frozen BK236.out 1) | ((with_reducible refine gate_callee (f := 70) rfl ?_); refine goesL_ (some 7) rfl rfl Tryz.func70 (by kernel_rfl) rfl #[] rfl ma ?_; (with_reducible refine (r8_Minus.calls  t238 t239 _ A3.out).mono ?_); rintro e w8 ⟨rfl, hb⟩; refine ⟨_, rfl, ?_⟩; replace BK236 := bkb BK236 hb; replace BK237 := bkb BK237 hb; replace HB := bsq w hb; (try clear hb); have hcz9_0 := bz0 BK237; have hcz9_1 := bz1 BK237; have hfz9_0 := blk_frozen BK237.out 0; have hfz9_1 := blk_frozen BK237.out 1))
  refine bodyPost_ret (results_cell_row rfl _ _ gb237 25 #[.int .i64 t238, .int .i64 t239] (0, 0) _ rfl (by (repeat refine dw ?_); refine blk_put (cs := #[.int .i64 t238, .int .i64 0]) ?_ 1 _ rfl; (repeat refine dw ?_); refine blk_put (cs := #[.int .i64 0, .int .i64 0]) ?_ 0 _ rfl; (repeat refine dw ?_); exact BK237.out) Tryz.underlying25 rfl (by kernel_rfl)) rfl ?_
  exact ⟨fe, bbl⟩
 ·rw [if_neg c2] at H
  have c2b0 := beq_eq_false_iff_ne.mpr c2
  have c2b1 := bne_iff_ne.mpr c2
  by_cases c10 : a0_0 = 5
  ·rw [if_pos c10] at H
   have c10b0 := beq_iff_eq.mpr c10
   have c10b1 := bne_eq_false_iff_eq.mpr c10
   clear c10
   obtain ⟨⟨t240, t241⟩, A11, H⟩ := bnd H
   replace H : (some (t240, t241)) = some (r1, r2) := H
   simp only [Option.some.injEq, Prod.mk.injEq] at H
   obtain ⟨rfl, rfl⟩ := H
   go_enter Tryz.func97, Tryz.ntmps97
   go_wp2_with (first | ((with_reducible refine gate_dst (N := 1) rfl ?_); refine bxe (N := 1) (cs := #[.int .i64 a0_0, .int .i64 a0_1]) (t := 25) ?_; intro gb236 hg w12 hbox hb; have BK236 := Sd.mk hbox; have GW236 := bge w hg; have GE236 := bge w hg; replace HB := bsq w hb; clear hb hbox hg) | ((with_reducible refine gate_dst (N := 2) rfl ?_); refine bxe (N := 2) (cs := #[.int .i64 0, .int .i64 0]) (t := 25) ?_; intro gb237 hg w13 hbox hb; have BK237 := Sd.mk hbox; have GW237 := bge w hg; have GE237 := bge w hg; have NB236_237 := bnl BK236 hg; have NB237_236 := bng BK236 hg; replace BK236 := bkb BK236 hb; replace HB := bsq w hb; clear hb hbox hg; have hnb14 := NB236_237.out; have hnc14 := NB237_236.out; have hcz15_0 := bz0 BK236; have hcz15_1 := bz1 BK236; have hfz15_0 := blk_frozen BK236.out 0; have hfz15_1 := blk_frozen BK236.out 1) | ((with_reducible refine gate_callee (f := 69) rfl ?_); refine goesL_ (some 10) rfl rfl Tryz.func69 (by kernel_rfl) rfl #[] rfl ma ?_; (with_reducible refine (r8_Plus.calls  t240 t241 _ A11.out).mono ?_); rintro e w16 ⟨rfl, hb⟩; refine ⟨_, rfl, ?_⟩; replace BK236 := bkb BK236 hb; replace BK237 := bkb BK237 hb; replace HB := bsq w hb; (try clear hb); have hcz17_0 := bz0 BK237; have hcz17_1 := bz1 BK237; have hfz17_0 := blk_frozen BK237.out 0; have hfz17_1 := blk_frozen BK237.out 1))
   refine bodyPost_ret (results_cell_row rfl _ _ gb237 25 #[.int .i64 t240, .int .i64 t241] (0, 0) _ rfl (by (repeat refine dw ?_); refine blk_put (cs := #[.int .i64 t240, .int .i64 0]) ?_ 1 _ rfl; (repeat refine dw ?_); refine blk_put (cs := #[.int .i64 0, .int .i64 0]) ?_ 0 _ rfl; (repeat refine dw ?_); exact BK237.out) Tryz.underlying25 rfl (by kernel_rfl)) rfl ?_
   exact ⟨fe, bbl⟩
  ·rw [if_neg c10] at H
   have c10b0 := beq_eq_false_iff_ne.mpr c10
   have c10b1 := bne_iff_ne.mpr c10
   simp only [Option.some.injEq, Prod.mk.injEq] at H
   obtain ⟨rfl, rfl⟩ := H
   go_enter Tryz.func97, Tryz.ntmps97
   go_wp2_with (first | ((with_reducible refine gate_dst (N := 1) rfl ?_); refine bxe (N := 1) (cs := #[.int .i64 a0_0, .int .i64 a0_1]) (t := 25) ?_; intro gb236 hg w18 hbox hb; have BK236 := Sd.mk hbox; have GW236 := bge w hg; have GE236 := bge w hg; replace HB := bsq w hb; clear hb hbox hg) | ((with_reducible refine gate_dst (N := 2) rfl ?_); refine bxe (N := 2) (cs := #[.int .i64 0, .int .i64 0]) (t := 25) ?_; intro gb237 hg w19 hbox hb; have BK237 := Sd.mk hbox; have GW237 := bge w hg; have GE237 := bge w hg; have NB236_237 := bnl BK236 hg; have NB237_236 := bng BK236 hg; replace BK236 := bkb BK236 hb; replace HB := bsq w hb; clear hb hbox hg; have hnb20 := NB236_237.out; have hnc20 := NB237_236.out; have hcz21_0 := bz0 BK236; have hcz21_1 := bz1 BK236; have hfz21_0 := blk_frozen BK236.out 0; have hfz21_1 := blk_frozen BK236.out 1; have hcz22_0 := bz0 BK237; have hcz22_1 := bz1 BK237; have hfz22_0 := blk_frozen BK237.out 0; have hfz22_1 := blk_frozen BK237.out 1))
   refine bodyPost_ret (results_cell_row rfl _ _ gb237 25 #[.int .i64 a0_0, .int .i64 (wrap64 (-a0_1))] (0, 0) _ rfl (by (repeat refine dw ?_); refine blk_put (cs := #[.int .i64 a0_0, .int .i64 0]) ?_ 1 _ rfl; (repeat refine dw ?_); refine blk_put (cs := #[.int .i64 0, .int .i64 0]) ?_ 0 _ rfl; (repeat refine dw ?_); refine blk_far ?_ NB237_236.out _; (repeat refine dw ?_); exact BK237.out) Tryz.underlying25 rfl (by kernel_rfl)) rfl ?_
   exact ⟨fe, bbl⟩
def r8_Null.f  : Option (Int × Int) := some (2, 0)
theorem r8_Null.calls  (r1 : Int) (r2 : Int) (w : World) (h : r8_Null.f  = some (r1, r2)) :
  Calls Tryz.prog 28 #[] w fun e w' => e = .returned (.agg #[.int .i64 r1, .int .i64 r2]) ∧ Below w.heap.size w w' := by
 have hu25 := Tryz.underlying25
 have HB := Sd.mk (Below.refl w.heap.size w)
 have H : (some (2, 0)) = some (r1, r2) := h
 clear h
 simp only [Option.some.injEq, Prod.mk.injEq] at H
 obtain ⟨rfl, rfl⟩ := H
 go_enter Tryz.func28, Tryz.ntmps28
 go_wp2_with (first | ((with_reducible refine gate_dst (N := 0) rfl ?_); refine bxe (N := 0) (cs := #[.int .i64 0, .int .i64 0]) (t := 25) ?_; intro gb266 hg w1 hbox hb; have BK266 := Sd.mk hbox; have GW266 := bge w hg; have GE266 := bge w hg; replace HB := bsq w hb; clear hb hbox hg; have hcz2_0 := bz0 BK266; have hcz2_1 := bz1 BK266; have hfz2_0 := blk_frozen BK266.out 0; have hfz2_1 := blk_frozen BK266.out 1))
 refine bodyPost_ret (results_cell_row rfl _ _ gb266 25 #[.int .i64 2, .int .i64 0] (0, 0) _ rfl (by (repeat refine dw ?_); refine blk_put (cs := #[.int .i64 2, .int .i64 0]) ?_ 1 _ rfl; (repeat refine dw ?_); refine blk_put (cs := #[.int .i64 0, .int .i64 0]) ?_ 0 _ rfl; (repeat refine dw ?_); exact BK266.out) Tryz.underlying25 rfl (by kernel_rfl)) rfl ?_
 exact ⟨fe, bbl⟩
def r8_NaN.f  : Option (Int × Int) := some (3, 0)
theorem r8_NaN.calls  (r1 : Int) (r2 : Int) (w : World) (h : r8_NaN.f  = some (r1, r2)) :
  Calls Tryz.prog 29 #[] w fun e w' => e = .returned (.agg #[.int .i64 r1, .int .i64 r2]) ∧ Below w.heap.size w w' := by
 have hu25 := Tryz.underlying25
 have HB := Sd.mk (Below.refl w.heap.size w)
 have H : (some (3, 0)) = some (r1, r2) := h
 clear h
 simp only [Option.some.injEq, Prod.mk.injEq] at H
 obtain ⟨rfl, rfl⟩ := H
 go_enter Tryz.func29, Tryz.ntmps29
 go_wp2_with (first | ((with_reducible refine gate_dst (N := 0) rfl ?_); refine bxe (N := 0) (cs := #[.int .i64 0, .int .i64 0]) (t := 25) ?_; intro gb267 hg w1 hbox hb; have BK267 := Sd.mk hbox; have GW267 := bge w hg; have GE267 := bge w hg; replace HB := bsq w hb; clear hb hbox hg; have hcz2_0 := bz0 BK267; have hcz2_1 := bz1 BK267; have hfz2_0 := blk_frozen BK267.out 0; have hfz2_1 := blk_frozen BK267.out 1))
 refine bodyPost_ret (results_cell_row rfl _ _ gb267 25 #[.int .i64 3, .int .i64 0] (0, 0) _ rfl (by (repeat refine dw ?_); refine blk_put (cs := #[.int .i64 3, .int .i64 0]) ?_ 1 _ rfl; (repeat refine dw ?_); refine blk_put (cs := #[.int .i64 0, .int .i64 0]) ?_ 0 _ rfl; (repeat refine dw ?_); exact BK267.out) Tryz.underlying25 rfl (by kernel_rfl)) rfl ?_
 exact ⟨fe, bbl⟩
def r8_Less.j0 : Nat → Bool → Int → Int → Int → Int → Option (Bool)
 | 0, _, _, _, _, _ => none
 | k + 1, x5, x269000, x269001, x270000, x270001 => if x5 = true then (some (decide (x269001 < x270001))) else (if x269000 = x270000 then (some false) else (if x269000 = 5 then (some true) else (some (x270000 == 4))))
def r8_Less.f (k : Nat) (a0_0 : Int) (a0_1 : Int) (a1_0 : Int) (a1_1 : Int) : Option (Bool) := (r8_num.f a0_0 a0_1).bind fun t270 => (if t270 = true then ((r8_num.f a1_0 a1_1).bind fun t271 => (r8_Less.j0 k t271 a0_0 a0_1 a1_0 a1_1)) else (r8_Less.j0 k false a0_0 a0_1 a1_0 a1_1))
theorem r8_Less.calls (k : Nat) (a0_0 : Int) (a0_1 : Int) (a1_0 : Int) (a1_1 : Int) (r : Bool) (w : World) (h : r8_Less.f k a0_0 a0_1 a1_0 a1_1 = some r) :
  Calls Tryz.prog 48 #[.agg #[.int .i64 a0_0, .int .i64 a0_1], .agg #[.int .i64 a1_0, .int .i64 a1_1]] w fun e w' => e = .returned (.bool r) ∧ Below w.heap.size w w' := by
 have hu25 := Tryz.underlying25
 have HB := Sd.mk (Below.refl w.heap.size w)
 have H : ((r8_num.f a0_0 a0_1).bind fun t270 => (if t270 = true then ((r8_num.f a1_0 a1_1).bind fun t271 => (r8_Less.j0 k t271 a0_0 a0_1 a1_0 a1_1)) else (r8_Less.j0 k false a0_0 a0_1 a1_0 a1_1))) = some r := h
 clear h
 have HC3 := Sd.mk H
 clear H
 go_enter Tryz.func48, Tryz.ntmps48
 go_upto_region 1 with (first | ((with_reducible refine gate_dst (N := 2) rfl ?_); refine bxe (N := 2) (cs := #[.int .i64 a0_0, .int .i64 a0_1]) (t := 25) ?_; intro gb268 hg w4 hbox hb; have BK268 := Sd.mk hbox; have GW268 := bge w hg; have GE268 := bge w hg; replace HB := bsq w hb; clear hb hbox hg) | ((with_reducible refine gate_dst (N := 3) rfl ?_); refine bxe (N := 3) (cs := #[.int .i64 a1_0, .int .i64 a1_1]) (t := 25) ?_; intro gb269 hg w5 hbox hb; have BK269 := Sd.mk hbox; have GW269 := bge w hg; have GE269 := bge w hg; have NB268_269 := bnl BK268 hg; have NB269_268 := bng BK268 hg; replace BK268 := bkb BK268 hb; replace HB := bsq w hb; clear hb hbox hg))
 (try simp only [Act.put, List.setIfInBounds_toArray, List.set_cons_zero, List.set_cons_succ])
 go_cut [5] (fun v5 wc => ∃ (kq : Nat) (x5_2 : Bool), v5 = .bool x5_2 ∧ Sd (r8_Less.j0 kq x5_2 a0_0 a0_1 a1_0 a1_1 = some r) ∧ Sd (kq ≤ k) ∧ Sd (wc.heap[gb268]? = some (.cells #[.int .i64 a0_0, .int .i64 a0_1] 25 (0, 0))) ∧ Sd (wc.heap[gb269]? = some (.cells #[.int .i64 a1_0, .int .i64 a1_1] 25 (0, 0))) ∧ Sd (Below w.heap.size w wc))
 case first =>
  have H := HC3.out
  clear HC3
  obtain ⟨t270, A6, H⟩ := bnd H
  by_cases c7 : t270 = true
  ·subst c7
   replace H := iT H
   obtain ⟨t271, A8, H⟩ := bnd H
   have H' := Sd.mk H
   clear H
   have hnb9 := NB268_269.out
   have hnc9 := NB269_268.out
   obtain ⟨hcz10_0, hcz10_1, hfz10_0, hfz10_1⟩ := bz BK268
   go_wp2_with (first | ((with_reducible refine gate_callee (f := 84) rfl ?_); refine goesL_ (some 7) rfl rfl Tryz.func84 (by kernel_rfl) rfl #[.agg #[.int .i64 a0_0, .int .i64 a0_1]] rfl ma ?_; (with_reducible refine (r8_num.calls a0_0 a0_1 true _ A6.out).mono ?_); rintro e w11 ⟨rfl, hb⟩; refine ⟨_, rfl, ?_⟩; replace BK268 := bkb BK268 hb; replace BK269 := bkb BK269 hb; replace HB := bsq w hb; (try clear hb); have hcz12_0 := bz0 BK269; have hcz12_1 := bz1 BK269; have hfz12_0 := blk_frozen BK269.out 0; have hfz12_1 := blk_frozen BK269.out 1) | (go_at_call 84; (with_reducible refine (r8_num.calls a1_0 a1_1 t271 _ A8.out).mono ?_); rintro e w13 ⟨rfl, hb⟩; replace BK268 := bkb BK268 hb; replace BK269 := bkb BK269 hb; replace HB := bsq w hb; (try clear hb)))
   go_meet
   case rel => exact ⟨_, (t271), ae, H', ⟨by first | omega | exact Nat.le_refl _⟩, fwK BK268, fwK BK269, ⟨bbl⟩⟩
  ·replace c7 := Bool.eq_false_iff.mpr c7
   subst c7
   replace H := iF H
   have H' := Sd.mk H
   clear H
   have hnb14 := NB268_269.out
   have hnc14 := NB269_268.out
   obtain ⟨hcz15_0, hcz15_1, hfz15_0, hfz15_1⟩ := bz BK268
   go_wp2_with (first | ((with_reducible refine gate_callee (f := 84) rfl ?_); refine goesL_ (some 7) rfl rfl Tryz.func84 (by kernel_rfl) rfl #[.agg #[.int .i64 a0_0, .int .i64 a0_1]] rfl ma ?_; (with_reducible refine (r8_num.calls a0_0 a0_1 false _ A6.out).mono ?_); rintro e w16 ⟨rfl, hb⟩; refine ⟨_, rfl, ?_⟩; replace BK268 := bkb BK268 hb; replace BK269 := bkb BK269 hb; replace HB := bsq w hb; (try clear hb)))
   go_meet
   case rel => exact ⟨_, (false), ae, H', ⟨by first | omega | exact Nat.le_refl _⟩, fwK BK268, fwK BK269, ⟨bbl⟩⟩
 case rest =>
  clear HC3
  obtain ⟨kq, x5_2, rfl, HA, HJ2, BK268, BK269, HB⟩ := hcut
  cases kq with
  | zero => exact absurd HA.out (by simp [r8_Less.j0])
  | succ kj2 =>
   have H := HA.out
   clear HA
   simp only [r8_Less.j0] at H
   by_cases c17 : x5_2 = true
   ·subst c17
    replace H := iT H
    obtain rfl := Option.some.inj H
    have hnb18 := NB268_269.out
    have hnc18 := NB269_268.out
    obtain ⟨hcz19_0, hcz19_1, hfz19_0, hfz19_1⟩ := bz BK268
    obtain ⟨hcz20_0, hcz20_1, hfz20_0, hfz20_1⟩ := bz BK269
    go_wp2
    go_ret
    exact ⟨fe, bbl⟩
   ·replace c17 := Bool.eq_false_iff.mpr c17
    subst c17
    replace H := iF H
    by_cases c21 : a0_0 = a1_0
    ·rw [if_pos c21] at H
     have c21b0 := beq_iff_eq.mpr c21
     have c21b1 := bne_eq_false_iff_eq.mpr c21
     clear c21
     obtain rfl := Option.some.inj H
     have hnb22 := NB268_269.out
     have hnc22 := NB269_268.out
     obtain ⟨hcz23_0, hcz23_1, hfz23_0, hfz23_1⟩ := bz BK268
     obtain ⟨hcz24_0, hcz24_1, hfz24_0, hfz24_1⟩ := bz BK269
     go_wp2
     go_ret
     exact ⟨fe, bbl⟩
    ·rw [if_neg c21] at H
     have c21b0 := beq_eq_false_iff_ne.mpr c21
     have c21b1 := bne_iff_ne.mpr c21
     by_cases c25 : a0_0 = 5
     ·rw [if_pos c25] at H
      have c25b0 := beq_iff_eq.mpr c25
      have c25b1 := bne_eq_false_iff_eq.mpr c25
      clear c25
      obtain rfl := Option.some.inj H
      have hnb26 := NB268_269.out
      have hnc26 := NB269_268.out
      obtain ⟨hcz27_0, hcz27_1, hfz27_0, hfz27_1⟩ := bz BK268
      obtain ⟨hcz28_0, hcz28_1, hfz28_0, hfz28_1⟩ := bz BK269
      go_wp2
      go_ret
      exact ⟨fe, bbl⟩
     ·rw [if_neg c25] at H
      have c25b0 := beq_eq_false_iff_ne.mpr c25
      have c25b1 := bne_iff_ne.mpr c25
      obtain rfl := Option.some.inj H
      have hnb29 := NB268_269.out
      have hnc29 := NB269_268.out
      obtain ⟨hcz30_0, hcz30_1, hfz30_0, hfz30_1⟩ := bz BK268
      obtain ⟨hcz31_0, hcz31_1, hfz31_0, hfz31_1⟩ := bz BK269
      go_wp2
      go_ret
      exact ⟨fe, bbl⟩
def r8_add.j0 : Nat → Bool → Int → Int → Int → Int → Option (Int × Int)
 | 0, _, _, _, _, _ => none
 | k + 1, x5, x273000, x273001, x274000, x274001 => if x5 = true then ((r8_Num.f (wrap64 (x273001 + x274001))).bind fun bt277 => (some (bt277.1, bt277.2))) else ((r8_num.f x273000 x273001).bind fun t279 => (if t279 = true then (some (x274000, x274001)) else ((r8_num.f x274000 x274001).bind fun t280 => (if t280 = true then (some (x273000, x273001)) else (if (x273000 == x274000 && (x273001 == x274001)) = true then (some (x273000, x273001)) else ((r8_NaN.f).bind fun bt281 => (some (bt281.1, bt281.2))))))))
def r8_add.f (k : Nat) (a0_0 : Int) (a0_1 : Int) (a1_0 : Int) (a1_1 : Int) : Option (Int × Int) := (r8_num.f a0_0 a0_1).bind fun t275 => (if t275 = true then ((r8_num.f a1_0 a1_1).bind fun t276 => (r8_add.j0 k t276 a0_0 a0_1 a1_0 a1_1)) else (r8_add.j0 k false a0_0 a0_1 a1_0 a1_1))
theorem r8_add.calls (k : Nat) (a0_0 : Int) (a0_1 : Int) (a1_0 : Int) (a1_1 : Int) (r1 : Int) (r2 : Int) (w : World) (h : r8_add.f k a0_0 a0_1 a1_0 a1_1 = some (r1, r2)) :
  Calls Tryz.prog 98 #[.agg #[.int .i64 a0_0, .int .i64 a0_1], .agg #[.int .i64 a1_0, .int .i64 a1_1]] w fun e w' => e = .returned (.agg #[.int .i64 r1, .int .i64 r2]) ∧ Below w.heap.size w w' := by
 have hu25 := Tryz.underlying25
 have HB := Sd.mk (Below.refl w.heap.size w)
 have H : ((r8_num.f a0_0 a0_1).bind fun t275 => (if t275 = true then ((r8_num.f a1_0 a1_1).bind fun t276 => (r8_add.j0 k t276 a0_0 a0_1 a1_0 a1_1)) else (r8_add.j0 k false a0_0 a0_1 a1_0 a1_1))) = some (r1, r2) := h
 clear h
 have HC3 := Sd.mk H
 clear H
 go_enter Tryz.func98, Tryz.ntmps98
 go_upto_region 1 with (first | ((with_reducible refine gate_dst (N := 2) rfl ?_); refine bxe (N := 2) (cs := #[.int .i64 a0_0, .int .i64 a0_1]) (t := 25) ?_; intro gb272 hg w4 hbox hb; have BK272 := Sd.mk hbox; have GW272 := bge w hg; have GE272 := bge w hg; replace HB := bsq w hb; clear hb hbox hg) | ((with_reducible refine gate_dst (N := 3) rfl ?_); refine bxe (N := 3) (cs := #[.int .i64 a1_0, .int .i64 a1_1]) (t := 25) ?_; intro gb273 hg w5 hbox hb; have BK273 := Sd.mk hbox; have GW273 := bge w hg; have GE273 := bge w hg; have NB272_273 := bnl BK272 hg; have NB273_272 := bng BK272 hg; replace BK272 := bkb BK272 hb; replace HB := bsq w hb; clear hb hbox hg) | ((with_reducible refine gate_dst (N := 4) rfl ?_); refine bxe (N := 4) (cs := #[.int .i64 0, .int .i64 0]) (t := 25) ?_; intro gb274 hg w6 hbox hb; have BK274 := Sd.mk hbox; have GW274 := bge w hg; have GE274 := bge w hg; have NB272_274 := bnl BK272 hg; have NB274_272 := bng BK272 hg; have NB273_274 := bnl BK273 hg; have NB274_273 := bng BK273 hg; replace BK272 := bkb BK272 hb; replace BK273 := bkb BK273 hb; replace HB := bsq w hb; clear hb hbox hg))
 (try simp only [Act.put, List.setIfInBounds_toArray, List.set_cons_zero, List.set_cons_succ])
 go_cut [5] (fun v5 wc => ∃ (kq : Nat) (x5_2 : Bool), v5 = .bool x5_2 ∧ Sd (r8_add.j0 kq x5_2 a0_0 a0_1 a1_0 a1_1 = some (r1, r2)) ∧ Sd (kq ≤ k) ∧ Sd (wc.heap[gb272]? = some (.cells #[.int .i64 a0_0, .int .i64 a0_1] 25 (0, 0))) ∧ Sd (wc.heap[gb273]? = some (.cells #[.int .i64 a1_0, .int .i64 a1_1] 25 (0, 0))) ∧ Sd (wc.heap[gb274]? = some (.cells #[.int .i64 0, .int .i64 0] 25 (0, 0))) ∧ Sd (Below w.heap.size w wc))
 case first =>
  have H := HC3.out
  clear HC3
  obtain ⟨t275, A7, H⟩ := bnd H
  by_cases c8 : t275 = true
  ·subst c8
   replace H := iT H
   obtain ⟨t276, A9, H⟩ := bnd H
   have H' := Sd.mk H
   clear H
   have hnb10 := NB272_273.out
   have hnc10 := NB273_272.out
   have hnb11 := NB272_274.out
   have hnc11 := NB274_272.out
   obtain ⟨hcz12_0, hcz12_1, hfz12_0, hfz12_1⟩ := bz BK272
   go_wp2_with (first | ((with_reducible refine gate_callee (f := 84) rfl ?_); refine goesL_ (some 7) rfl rfl Tryz.func84 (by kernel_rfl) rfl #[.agg #[.int .i64 a0_0, .int .i64 a0_1]] rfl ma ?_; (with_reducible refine (r8_num.calls a0_0 a0_1 true _ A7.out).mono ?_); rintro e w13 ⟨rfl, hb⟩; refine ⟨_, rfl, ?_⟩; replace BK272 := bkb BK272 hb; replace BK273 := bkb BK273 hb; replace BK274 := bkb BK274 hb; replace HB := bsq w hb; (try clear hb); have hnb14 := NB273_274.out; have hnc14 := NB274_273.out; have hcz15_0 := bz0 BK273; have hcz15_1 := bz1 BK273; have hfz15_0 := blk_frozen BK273.out 0; have hfz15_1 := blk_frozen BK273.out 1) | (go_at_call 84; (with_reducible refine (r8_num.calls a1_0 a1_1 t276 _ A9.out).mono ?_); rintro e w16 ⟨rfl, hb⟩; replace BK272 := bkb BK272 hb; replace BK273 := bkb BK273 hb; replace BK274 := bkb BK274 hb; replace HB := bsq w hb; (try clear hb)))
   go_meet
   case rel => exact ⟨_, (t276), ae, H', ⟨by first | omega | exact Nat.le_refl _⟩, fwK BK272, fwK BK273, fwK BK274, ⟨bbl⟩⟩
  ·replace c8 := Bool.eq_false_iff.mpr c8
   subst c8
   replace H := iF H
   have H' := Sd.mk H
   clear H
   have hnb17 := NB272_273.out
   have hnc17 := NB273_272.out
   have hnb18 := NB272_274.out
   have hnc18 := NB274_272.out
   obtain ⟨hcz19_0, hcz19_1, hfz19_0, hfz19_1⟩ := bz BK272
   go_wp2_with (first | ((with_reducible refine gate_callee (f := 84) rfl ?_); refine goesL_ (some 7) rfl rfl Tryz.func84 (by kernel_rfl) rfl #[.agg #[.int .i64 a0_0, .int .i64 a0_1]] rfl ma ?_; (with_reducible refine (r8_num.calls a0_0 a0_1 false _ A7.out).mono ?_); rintro e w20 ⟨rfl, hb⟩; refine ⟨_, rfl, ?_⟩; replace BK272 := bkb BK272 hb; replace BK273 := bkb BK273 hb; replace BK274 := bkb BK274 hb; replace HB := bsq w hb; (try clear hb)))
   go_meet
   case rel => exact ⟨_, (false), ae, H', ⟨by first | omega | exact Nat.le_refl _⟩, fwK BK272, fwK BK273, fwK BK274, ⟨bbl⟩⟩
 case rest =>
  clear HC3
  obtain ⟨kq, x5_2, rfl, HA, HJ2, BK272, BK273, BK274, HB⟩ := hcut
  cases kq with
  | zero => exact absurd HA.out (by simp [r8_add.j0])
  | succ kj2 =>
   have H := HA.out
   clear HA
   simp only [r8_add.j0] at H
   by_cases c21 : x5_2 = true
   ·subst c21
    replace H := iT H
    obtain ⟨⟨t277, t278⟩, A22, H⟩ := bnd H
    replace H : (some (t277, t278)) = some (r1, r2) := H
    simp only [Option.some.injEq, Prod.mk.injEq] at H
    obtain ⟨rfl, rfl⟩ := H
    have hnb23 := NB272_273.out
    have hnc23 := NB273_272.out
    have hnb24 := NB272_274.out
    have hnc24 := NB274_272.out
    obtain ⟨hcz25_0, hcz25_1, hfz25_0, hfz25_1⟩ := bz BK272
    have hnb26 := NB273_274.out
    have hnc26 := NB274_273.out
    obtain ⟨hcz27_0, hcz27_1, hfz27_0, hfz27_1⟩ := bz BK273
    go_wp2_with (first | ((with_reducible refine gate_callee (f := 27) rfl ?_); refine goesL_ (some 17) rfl rfl Tryz.func27 (by kernel_rfl) rfl #[.int .i64 (wrap64 (a0_1 + a1_1))] rfl ma ?_; (with_reducible refine (r8_Num.calls (wrap64 (a0_1 + a1_1)) t277 t278 _ A22.out).mono ?_); rintro e w28 ⟨rfl, hb⟩; refine ⟨_, rfl, ?_⟩; replace BK272 := bkb BK272 hb; replace BK273 := bkb BK273 hb; replace BK274 := bkb BK274 hb; replace HB := bsq w hb; (try clear hb); have hcz29_0 := bz0 BK274; have hcz29_1 := bz1 BK274; have hfz29_0 := blk_frozen BK274.out 0; have hfz29_1 := blk_frozen BK274.out 1))
    refine bodyPost_ret (results_cell_row rfl _ _ gb274 25 #[.int .i64 t277, .int .i64 t278] (0, 0) _ rfl (by (repeat refine dw ?_); refine blk_put (cs := #[.int .i64 t277, .int .i64 0]) ?_ 1 _ rfl; (repeat refine dw ?_); refine blk_put (cs := #[.int .i64 0, .int .i64 0]) ?_ 0 _ rfl; (repeat refine dw ?_); exact BK274.out) Tryz.underlying25 rfl (by kernel_rfl)) rfl ?_
    exact ⟨fe, bbl⟩
   ·replace c21 := Bool.eq_false_iff.mpr c21
    subst c21
    replace H := iF H
    obtain ⟨t279, A30, H⟩ := bnd H
    by_cases c31 : t279 = true
    ·subst c31
     replace H := iT H
     simp only [Option.some.injEq, Prod.mk.injEq] at H
     obtain ⟨rfl, rfl⟩ := H
     have hnb32 := NB272_273.out
     have hnc32 := NB273_272.out
     have hnb33 := NB272_274.out
     have hnc33 := NB274_272.out
     obtain ⟨hcz34_0, hcz34_1, hfz34_0, hfz34_1⟩ := bz BK272
     go_wp2_with (first | ((with_reducible refine gate_callee (f := 84) rfl ?_); refine goesL_ (some 20) rfl rfl Tryz.func84 (by kernel_rfl) rfl #[.agg #[.int .i64 a0_0, .int .i64 a0_1]] rfl ma ?_; (with_reducible refine (r8_num.calls a0_0 a0_1 true _ A30.out).mono ?_); rintro e w35 ⟨rfl, hb⟩; refine ⟨_, rfl, ?_⟩; replace BK272 := bkb BK272 hb; replace BK273 := bkb BK273 hb; replace BK274 := bkb BK274 hb; replace HB := bsq w hb; (try clear hb); have hnb36 := NB273_274.out; have hnc36 := NB274_273.out; have hcz37_0 := bz0 BK273; have hcz37_1 := bz1 BK273; have hfz37_0 := blk_frozen BK273.out 0; have hfz37_1 := blk_frozen BK273.out 1; have hcz38_0 := bz0 BK274; have hcz38_1 := bz1 BK274; have hfz38_0 := blk_frozen BK274.out 0; have hfz38_1 := blk_frozen BK274.out 1))
     refine bodyPost_ret (results_cell_row rfl _ _ gb274 25 #[.int .i64 a1_0, .int .i64 a1_1] (0, 0) _ rfl (by (repeat refine dw ?_); refine blk_put (cs := #[.int .i64 a1_0, .int .i64 0]) ?_ 1 _ rfl; (repeat refine dw ?_); refine blk_put (cs := #[.int .i64 0, .int .i64 0]) ?_ 0 _ rfl; (repeat refine dw ?_); exact BK274.out) Tryz.underlying25 rfl (by kernel_rfl)) rfl ?_
     exact ⟨fe, bbl⟩
    ·replace c31 := Bool.eq_false_iff.mpr c31
     subst c31
     replace H := iF H
     obtain ⟨t280, A39, H⟩ := bnd H
     by_cases c40 : t280 = true
     ·subst c40
      replace H := iT H
      simp only [Option.some.injEq, Prod.mk.injEq] at H
      obtain ⟨rfl, rfl⟩ := H
      have hnb41 := NB272_273.out
      have hnc41 := NB273_272.out
      have hnb42 := NB272_274.out
      have hnc42 := NB274_272.out
      obtain ⟨hcz43_0, hcz43_1, hfz43_0, hfz43_1⟩ := bz BK272
      go_wp2_with (first | ((with_reducible refine gate_callee (f := 84) rfl ?_); refine goesL_ (some 20) rfl rfl Tryz.func84 (by kernel_rfl) rfl #[.agg #[.int .i64 a0_0, .int .i64 a0_1]] rfl ma ?_; (with_reducible refine (r8_num.calls a0_0 a0_1 false _ A30.out).mono ?_); rintro e w44 ⟨rfl, hb⟩; refine ⟨_, rfl, ?_⟩; replace BK272 := bkb BK272 hb; replace BK273 := bkb BK273 hb; replace BK274 := bkb BK274 hb; replace HB := bsq w hb; (try clear hb); have hnb45 := NB273_274.out; have hnc45 := NB274_273.out; have hcz46_0 := bz0 BK273; have hcz46_1 := bz1 BK273; have hfz46_0 := blk_frozen BK273.out 0; have hfz46_1 := blk_frozen BK273.out 1) | ((with_reducible refine gate_callee (f := 84) rfl ?_); refine goesL_ (some 24) rfl rfl Tryz.func84 (by kernel_rfl) rfl #[.agg #[.int .i64 a1_0, .int .i64 a1_1]] rfl ma ?_; (with_reducible refine (r8_num.calls a1_0 a1_1 true _ A39.out).mono ?_); rintro e w47 ⟨rfl, hb⟩; refine ⟨_, rfl, ?_⟩; replace BK272 := bkb BK272 hb; replace BK273 := bkb BK273 hb; replace BK274 := bkb BK274 hb; replace HB := bsq w hb; (try clear hb); have hcz48_0 := bz0 BK272; have hcz48_1 := bz1 BK272; have hfz48_0 := blk_frozen BK272.out 0; have hfz48_1 := blk_frozen BK272.out 1; have hcz49_0 := bz0 BK274; have hcz49_1 := bz1 BK274; have hfz49_0 := blk_frozen BK274.out 0; have hfz49_1 := blk_frozen BK274.out 1))
      refine bodyPost_ret (results_cell_row rfl _ _ gb274 25 #[.int .i64 a0_0, .int .i64 a0_1] (0, 0) _ rfl (by (repeat refine dw ?_); refine blk_put (cs := #[.int .i64 a0_0, .int .i64 0]) ?_ 1 _ rfl; (repeat refine dw ?_); refine blk_put (cs := #[.int .i64 0, .int .i64 0]) ?_ 0 _ rfl; (repeat refine dw ?_); exact BK274.out) Tryz.underlying25 rfl (by kernel_rfl)) rfl ?_
      exact ⟨fe, bbl⟩
     ·replace c40 := Bool.eq_false_iff.mpr c40
      subst c40
      replace H := iF H
      by_cases c50 : (a0_0 == a1_0 && (a0_1 == a1_1)) = true
      ·rw [if_pos c50] at H
       have c50b0 : (a0_0 == a1_0 && (a0_1 == a1_1)) = true := c50
       (try (have c50b1 : decide (a0_0 = a1_0 && (a0_1 == a1_1)) = true := by simpa using c50))
       (try (have c50b2 : (a0_0 == a1_0 && (a0_1 == a1_1)) = true := by simpa using c50))
       clear c50
       simp only [Option.some.injEq, Prod.mk.injEq] at H
       obtain ⟨rfl, rfl⟩ := H
       have hnb51 := NB272_273.out
       have hnc51 := NB273_272.out
       have hnb52 := NB272_274.out
       have hnc52 := NB274_272.out
       obtain ⟨hcz53_0, hcz53_1, hfz53_0, hfz53_1⟩ := bz BK272
       go_wp2_with (first | ((with_reducible refine gate_callee (f := 84) rfl ?_); refine goesL_ (some 20) rfl rfl Tryz.func84 (by kernel_rfl) rfl #[.agg #[.int .i64 a0_0, .int .i64 a0_1]] rfl ma ?_; (with_reducible refine (r8_num.calls a0_0 a0_1 false _ A30.out).mono ?_); rintro e w54 ⟨rfl, hb⟩; refine ⟨_, rfl, ?_⟩; replace BK272 := bkb BK272 hb; replace BK273 := bkb BK273 hb; replace BK274 := bkb BK274 hb; replace HB := bsq w hb; (try clear hb); have hnb55 := NB273_274.out; have hnc55 := NB274_273.out; have hcz56_0 := bz0 BK273; have hcz56_1 := bz1 BK273; have hfz56_0 := blk_frozen BK273.out 0; have hfz56_1 := blk_frozen BK273.out 1) | ((with_reducible refine gate_callee (f := 84) rfl ?_); refine goesL_ (some 24) rfl rfl Tryz.func84 (by kernel_rfl) rfl #[.agg #[.int .i64 a1_0, .int .i64 a1_1]] rfl ma ?_; (with_reducible refine (r8_num.calls a1_0 a1_1 false _ A39.out).mono ?_); rintro e w57 ⟨rfl, hb⟩; refine ⟨_, rfl, ?_⟩; replace BK272 := bkb BK272 hb; replace BK273 := bkb BK273 hb; replace BK274 := bkb BK274 hb; replace HB := bsq w hb; (try clear hb); have hcz58_0 := bz0 BK272; have hcz58_1 := bz1 BK272; have hfz58_0 := blk_frozen BK272.out 0; have hfz58_1 := blk_frozen BK272.out 1; have hcz59_0 := bz0 BK273; have hcz59_1 := bz1 BK273; have hfz59_0 := blk_frozen BK273.out 0; have hfz59_1 := blk_frozen BK273.out 1; have hcz60_0 := bz0 BK274; have hcz60_1 := bz1 BK274; have hfz60_0 := blk_frozen BK274.out 0; have hfz60_1 := blk_frozen BK274.out 1))
       refine bodyPost_ret (results_cell_row rfl _ _ gb274 25 #[.int .i64 a0_0, .int .i64 a0_1] (0, 0) _ rfl (by (repeat refine dw ?_); refine blk_put (cs := #[.int .i64 a0_0, .int .i64 0]) ?_ 1 _ rfl; (repeat refine dw ?_); refine blk_put (cs := #[.int .i64 0, .int .i64 0]) ?_ 0 _ rfl; (repeat refine dw ?_); exact BK274.out) Tryz.underlying25 rfl (by kernel_rfl)) rfl ?_
       exact ⟨fe, bbl⟩
      ·rw [if_neg c50] at H
       have c50b0 : (a0_0 == a1_0 && (a0_1 == a1_1)) = false := by simpa using c50
       (try (have c50b1 : decide (a0_0 = a1_0 && (a0_1 == a1_1)) = false := by simpa using c50))
       (try (have c50b2 : (a0_0 == a1_0 && (a0_1 == a1_1)) = false := by simpa using c50))
       (try (have c50b3 : ¬ (a0_0 = a1_0 && (a0_1 == a1_1)) := by simpa using c50))
       clear c50
       obtain ⟨⟨t281, t282⟩, A61, H⟩ := bnd H
       replace H : (some (t281, t282)) = some (r1, r2) := H
       simp only [Option.some.injEq, Prod.mk.injEq] at H
       obtain ⟨rfl, rfl⟩ := H
       have hnb62 := NB272_273.out
       have hnc62 := NB273_272.out
       have hnb63 := NB272_274.out
       have hnc63 := NB274_272.out
       obtain ⟨hcz64_0, hcz64_1, hfz64_0, hfz64_1⟩ := bz BK272
       go_wp2_with (first | ((with_reducible refine gate_callee (f := 84) rfl ?_); refine goesL_ (some 20) rfl rfl Tryz.func84 (by kernel_rfl) rfl #[.agg #[.int .i64 a0_0, .int .i64 a0_1]] rfl ma ?_; (with_reducible refine (r8_num.calls a0_0 a0_1 false _ A30.out).mono ?_); rintro e w65 ⟨rfl, hb⟩; refine ⟨_, rfl, ?_⟩; replace BK272 := bkb BK272 hb; replace BK273 := bkb BK273 hb; replace BK274 := bkb BK274 hb; replace HB := bsq w hb; (try clear hb); have hnb66 := NB273_274.out; have hnc66 := NB274_273.out; have hcz67_0 := bz0 BK273; have hcz67_1 := bz1 BK273; have hfz67_0 := blk_frozen BK273.out 0; have hfz67_1 := blk_frozen BK273.out 1) | ((with_reducible refine gate_callee (f := 84) rfl ?_); refine goesL_ (some 24) rfl rfl Tryz.func84 (by kernel_rfl) rfl #[.agg #[.int .i64 a1_0, .int .i64 a1_1]] rfl ma ?_; (with_reducible refine (r8_num.calls a1_0 a1_1 false _ A39.out).mono ?_); rintro e w68 ⟨rfl, hb⟩; refine ⟨_, rfl, ?_⟩; replace BK272 := bkb BK272 hb; replace BK273 := bkb BK273 hb; replace BK274 := bkb BK274 hb; replace HB := bsq w hb; (try clear hb); have hcz69_0 := bz0 BK272; have hcz69_1 := bz1 BK272; have hfz69_0 := blk_frozen BK272.out 0; have hfz69_1 := blk_frozen BK272.out 1; have hcz70_0 := bz0 BK273; have hcz70_1 := bz1 BK273; have hfz70_0 := blk_frozen BK273.out 0; have hfz70_1 := blk_frozen BK273.out 1) | ((with_reducible refine gate_callee (f := 29) rfl ?_); refine goesL_ (some 31) rfl rfl Tryz.func29 (by kernel_rfl) rfl #[] rfl ma ?_; (with_reducible refine (r8_NaN.calls  t281 t282 _ A61.out).mono ?_); rintro e w71 ⟨rfl, hb⟩; refine ⟨_, rfl, ?_⟩; replace BK272 := bkb BK272 hb; replace BK273 := bkb BK273 hb; replace BK274 := bkb BK274 hb; replace HB := bsq w hb; (try clear hb); have hcz72_0 := bz0 BK274; have hcz72_1 := bz1 BK274; have hfz72_0 := blk_frozen BK274.out 0; have hfz72_1 := blk_frozen BK274.out 1))
       refine bodyPost_ret (results_cell_row rfl _ _ gb274 25 #[.int .i64 t281, .int .i64 t282] (0, 0) _ rfl (by (repeat refine dw ?_); refine blk_put (cs := #[.int .i64 t281, .int .i64 0]) ?_ 1 _ rfl; (repeat refine dw ?_); refine blk_put (cs := #[.int .i64 0, .int .i64 0]) ?_ 0 _ rfl; (repeat refine dw ?_); exact BK274.out) Tryz.underlying25 rfl (by kernel_rfl)) rfl ?_
       exact ⟨fe, bbl⟩
def r8_beyond.f (a0 : Int) : Option (Int × Int) := if a0 > 0 then ((r8_Plus.f).bind fun bt284 => (some (bt284.1, bt284.2))) else (if a0 < 0 then ((r8_Minus.f).bind fun bt286 => (some (bt286.1, bt286.2))) else ((r8_NaN.f).bind fun bt288 => (some (bt288.1, bt288.2))))
theorem r8_beyond.calls (a0 : Int) (r1 : Int) (r2 : Int) (w : World) (h : r8_beyond.f a0 = some (r1, r2)) :
  Calls Tryz.prog 148 #[.int .i64 a0] w fun e w' => e = .returned (.agg #[.int .i64 r1, .int .i64 r2]) ∧ Below w.heap.size w w' := by
 have hu25 := Tryz.underlying25
 have HB := Sd.mk (Below.refl w.heap.size w)
 have H : (if a0 > 0 then ((r8_Plus.f).bind fun bt284 => (some (bt284.1, bt284.2))) else (if a0 < 0 then ((r8_Minus.f).bind fun bt286 => (some (bt286.1, bt286.2))) else ((r8_NaN.f).bind fun bt288 => (some (bt288.1, bt288.2))))) = some (r1, r2) := h
 clear h
 by_cases c2 : a0 > 0
 ·rw [if_pos c2] at H
  have c2b0 : decide (0 < a0) = true := decide_eq_true c2
  clear c2
  obtain ⟨⟨t284, t285⟩, A3, H⟩ := bnd H
  replace H : (some (t284, t285)) = some (r1, r2) := H
  simp only [Option.some.injEq, Prod.mk.injEq] at H
  obtain ⟨rfl, rfl⟩ := H
  go_enter Tryz.func148, Tryz.ntmps148
  go_wp2_with (first | ((with_reducible refine gate_dst (N := 2) rfl ?_); refine bxe (N := 2) (cs := #[.int .i64 0, .int .i64 0]) (t := 25) ?_; intro gb283 hg w4 hbox hb; have BK283 := Sd.mk hbox; have GW283 := bge w hg; have GE283 := bge w hg; replace HB := bsq w hb; clear hb hbox hg) | ((with_reducible refine gate_callee (f := 69) rfl ?_); refine goesL_ (some 6) rfl rfl Tryz.func69 (by kernel_rfl) rfl #[] rfl ma ?_; (with_reducible refine (r8_Plus.calls  t284 t285 _ A3.out).mono ?_); rintro e w5 ⟨rfl, hb⟩; refine ⟨_, rfl, ?_⟩; replace BK283 := bkb BK283 hb; replace HB := bsq w hb; (try clear hb); have hcz6_0 := bz0 BK283; have hcz6_1 := bz1 BK283; have hfz6_0 := blk_frozen BK283.out 0; have hfz6_1 := blk_frozen BK283.out 1))
  refine bodyPost_ret (results_cell_row rfl _ _ gb283 25 #[.int .i64 t284, .int .i64 t285] (0, 0) _ rfl (by (repeat refine dw ?_); refine blk_put (cs := #[.int .i64 t284, .int .i64 0]) ?_ 1 _ rfl; (repeat refine dw ?_); refine blk_put (cs := #[.int .i64 0, .int .i64 0]) ?_ 0 _ rfl; (repeat refine dw ?_); exact BK283.out) Tryz.underlying25 rfl (by kernel_rfl)) rfl ?_
  exact ⟨fe, bbl⟩
 ·rw [if_neg c2] at H
  have c2b0 : decide (0 < a0) = false := decide_eq_false c2
  clear c2
  by_cases c7 : a0 < 0
  ·rw [if_pos c7] at H
   have c7b0 : decide (a0 < 0) = true := decide_eq_true c7
   clear c7
   obtain ⟨⟨t286, t287⟩, A8, H⟩ := bnd H
   replace H : (some (t286, t287)) = some (r1, r2) := H
   simp only [Option.some.injEq, Prod.mk.injEq] at H
   obtain ⟨rfl, rfl⟩ := H
   go_enter Tryz.func148, Tryz.ntmps148
   go_wp2_with (first | ((with_reducible refine gate_dst (N := 2) rfl ?_); refine bxe (N := 2) (cs := #[.int .i64 0, .int .i64 0]) (t := 25) ?_; intro gb283 hg w9 hbox hb; have BK283 := Sd.mk hbox; have GW283 := bge w hg; have GE283 := bge w hg; replace HB := bsq w hb; clear hb hbox hg) | ((with_reducible refine gate_callee (f := 70) rfl ?_); refine goesL_ (some 10) rfl rfl Tryz.func70 (by kernel_rfl) rfl #[] rfl ma ?_; (with_reducible refine (r8_Minus.calls  t286 t287 _ A8.out).mono ?_); rintro e w10 ⟨rfl, hb⟩; refine ⟨_, rfl, ?_⟩; replace BK283 := bkb BK283 hb; replace HB := bsq w hb; (try clear hb); have hcz11_0 := bz0 BK283; have hcz11_1 := bz1 BK283; have hfz11_0 := blk_frozen BK283.out 0; have hfz11_1 := blk_frozen BK283.out 1))
   refine bodyPost_ret (results_cell_row rfl _ _ gb283 25 #[.int .i64 t286, .int .i64 t287] (0, 0) _ rfl (by (repeat refine dw ?_); refine blk_put (cs := #[.int .i64 t286, .int .i64 0]) ?_ 1 _ rfl; (repeat refine dw ?_); refine blk_put (cs := #[.int .i64 0, .int .i64 0]) ?_ 0 _ rfl; (repeat refine dw ?_); exact BK283.out) Tryz.underlying25 rfl (by kernel_rfl)) rfl ?_
   exact ⟨fe, bbl⟩
  ·rw [if_neg c7] at H
   have c7b0 : decide (a0 < 0) = false := decide_eq_false c7
   clear c7
   obtain ⟨⟨t288, t289⟩, A12, H⟩ := bnd H
   replace H : (some (t288, t289)) = some (r1, r2) := H
   simp only [Option.some.injEq, Prod.mk.injEq] at H
   obtain ⟨rfl, rfl⟩ := H
   go_enter Tryz.func148, Tryz.ntmps148
   go_wp2_with (first | ((with_reducible refine gate_dst (N := 2) rfl ?_); refine bxe (N := 2) (cs := #[.int .i64 0, .int .i64 0]) (t := 25) ?_; intro gb283 hg w13 hbox hb; have BK283 := Sd.mk hbox; have GW283 := bge w hg; have GE283 := bge w hg; replace HB := bsq w hb; clear hb hbox hg) | ((with_reducible refine gate_callee (f := 29) rfl ?_); refine goesL_ (some 11) rfl rfl Tryz.func29 (by kernel_rfl) rfl #[] rfl ma ?_; (with_reducible refine (r8_NaN.calls  t288 t289 _ A12.out).mono ?_); rintro e w14 ⟨rfl, hb⟩; refine ⟨_, rfl, ?_⟩; replace BK283 := bkb BK283 hb; replace HB := bsq w hb; (try clear hb); have hcz15_0 := bz0 BK283; have hcz15_1 := bz1 BK283; have hfz15_0 := blk_frozen BK283.out 0; have hfz15_1 := blk_frozen BK283.out 1))
   refine bodyPost_ret (results_cell_row rfl _ _ gb283 25 #[.int .i64 t288, .int .i64 t289] (0, 0) _ rfl (by (repeat refine dw ?_); refine blk_put (cs := #[.int .i64 t288, .int .i64 0]) ?_ 1 _ rfl; (repeat refine dw ?_); refine blk_put (cs := #[.int .i64 0, .int .i64 0]) ?_ 0 _ rfl; (repeat refine dw ?_); exact BK283.out) Tryz.underlying25 rfl (by kernel_rfl)) rfl ?_
   exact ⟨fe, bbl⟩
mutual
def r8_over.j0 : Nat → Bool → Int → Int → Int → Int → Option (Int × Int)
 | 0, _, _, _, _, _ => none
 | k + 1, x5, x306000, x306001, x307000, x307001 => if x5 = true then ((r8_sign.f k x306000 x306001).bind fun t310 => ((r8_beyond.f t310).bind fun bt311 => (some (bt311.1, bt311.2)))) else ((r8_num.f x306000 x306001).bind fun t313 => (if t313 = true then ((r8_num.f x307000 x307001).bind fun t314 => (r8_over.j1 k t314 x306000 x306001 x307000 x307001)) else (r8_over.j1 k false x306000 x306001 x307000 x307001)))
def r8_over.j1 : Nat → Bool → Int → Int → Int → Int → Option (Int × Int)
 | 0, _, _, _, _, _ => none
 | k + 1, x20, x306000, x306001, x307000, x307001 => if x20 = true then (if x307001 = 0 then (none) else ((r8_Num.f (wrap64 (Int.tdiv (wrap64 (x306001 * 1000)) x307001))).bind fun bt315 => (some (bt315.1, bt315.2)))) else ((r8_num.f x306000 x306001).bind fun t317 => (if t317 = true then ((r8_Num.f 0).bind fun bt318 => (some (bt318.1, bt318.2))) else ((r8_num.f x307000 x307001).bind fun t320 => (if t320 = true then (r8_over.j2 k (decide (x307001 < 0)) x306000 x306001 x307000 x307001) else (r8_over.j2 k false x306000 x306001 x307000 x307001)))))
def r8_over.j2 : Nat → Bool → Int → Int → Int → Int → Option (Int × Int)
 | 0, _, _, _, _, _ => none
 | k + 1, x38, x306000, x306001, x307000, x307001 => if x38 = true then ((r8_turned.f x306000 x306001).bind fun bt321 => (some (bt321.1, bt321.2))) else ((r8_num.f x307000 x307001).bind fun t323 => (if t323 = true then (some (x306000, x306001)) else ((r8_NaN.f).bind fun bt324 => (some (bt324.1, bt324.2)))))
end
def r8_over.f (k : Nat) (a0_0 : Int) (a0_1 : Int) (a1_0 : Int) (a1_1 : Int) : Option (Int × Int) := (r8_num.f a0_0 a0_1).bind fun t308 => (if t308 = true then ((r8_num.f a1_0 a1_1).bind fun t309 => (if t309 = true then (r8_over.j0 k (a1_1 == 0) a0_0 a0_1 a1_0 a1_1) else (r8_over.j0 k false a0_0 a0_1 a1_0 a1_1))) else (r8_over.j0 k false a0_0 a0_1 a1_0 a1_1))
theorem r8_over.calls (k : Nat) (a0_0 : Int) (a0_1 : Int) (a1_0 : Int) (a1_1 : Int) (r1 : Int) (r2 : Int) (w : World) (h : r8_over.f k a0_0 a0_1 a1_0 a1_1 = some (r1, r2)) :
  Calls Tryz.prog 100 #[.agg #[.int .i64 a0_0, .int .i64 a0_1], .agg #[.int .i64 a1_0, .int .i64 a1_1]] w fun e w' => e = .returned (.agg #[.int .i64 r1, .int .i64 r2]) ∧ Below w.heap.size w w' := by
 have hu25 := Tryz.underlying25
 have HB := Sd.mk (Below.refl w.heap.size w)
 have H : ((r8_num.f a0_0 a0_1).bind fun t308 => (if t308 = true then ((r8_num.f a1_0 a1_1).bind fun t309 => (if t309 = true then (r8_over.j0 k (a1_1 == 0) a0_0 a0_1 a1_0 a1_1) else (r8_over.j0 k false a0_0 a0_1 a1_0 a1_1))) else (r8_over.j0 k false a0_0 a0_1 a1_0 a1_1))) = some (r1, r2) := h
 clear h
 have HC3 := Sd.mk H
 clear H
 go_enter Tryz.func100, Tryz.ntmps100
 go_upto_region 1 with (first | ((with_reducible refine gate_dst (N := 2) rfl ?_); refine bxe (N := 2) (cs := #[.int .i64 a0_0, .int .i64 a0_1]) (t := 25) ?_; intro gb305 hg w4 hbox hb; have BK305 := Sd.mk hbox; have GW305 := bge w hg; have GE305 := bge w hg; replace HB := bsq w hb; clear hb hbox hg) | ((with_reducible refine gate_dst (N := 3) rfl ?_); refine bxe (N := 3) (cs := #[.int .i64 a1_0, .int .i64 a1_1]) (t := 25) ?_; intro gb306 hg w5 hbox hb; have BK306 := Sd.mk hbox; have GW306 := bge w hg; have GE306 := bge w hg; have NB305_306 := bnl BK305 hg; have NB306_305 := bng BK305 hg; replace BK305 := bkb BK305 hb; replace HB := bsq w hb; clear hb hbox hg) | ((with_reducible refine gate_dst (N := 4) rfl ?_); refine bxe (N := 4) (cs := #[.int .i64 0, .int .i64 0]) (t := 25) ?_; intro gb307 hg w6 hbox hb; have BK307 := Sd.mk hbox; have GW307 := bge w hg; have GE307 := bge w hg; have NB305_307 := bnl BK305 hg; have NB307_305 := bng BK305 hg; have NB306_307 := bnl BK306 hg; have NB307_306 := bng BK306 hg; replace BK305 := bkb BK305 hb; replace BK306 := bkb BK306 hb; replace HB := bsq w hb; clear hb hbox hg))
 (try simp only [Act.put, List.setIfInBounds_toArray, List.set_cons_zero, List.set_cons_succ])
 go_cut [5] (fun v5 wc => ∃ (kq : Nat) (x5_2 : Bool), v5 = .bool x5_2 ∧ Sd (r8_over.j0 kq x5_2 a0_0 a0_1 a1_0 a1_1 = some (r1, r2)) ∧ Sd (kq ≤ k) ∧ Sd (wc.heap[gb305]? = some (.cells #[.int .i64 a0_0, .int .i64 a0_1] 25 (0, 0))) ∧ Sd (wc.heap[gb306]? = some (.cells #[.int .i64 a1_0, .int .i64 a1_1] 25 (0, 0))) ∧ Sd (wc.heap[gb307]? = some (.cells #[.int .i64 0, .int .i64 0] 25 (0, 0))) ∧ Sd (Below w.heap.size w wc))
 case first =>
  have H := HC3.out
  clear HC3
  obtain ⟨t308, A7, H⟩ := bnd H
  by_cases c8 : t308 = true
  ·subst c8
   replace H := iT H
   obtain ⟨t309, A9, H⟩ := bnd H
   by_cases c10 : t309 = true
   ·subst c10
    replace H := iT H
    have H' := Sd.mk H
    clear H
    have hnb11 := NB305_306.out
    have hnc11 := NB306_305.out
    have hnb12 := NB305_307.out
    have hnc12 := NB307_305.out
    obtain ⟨hcz13_0, hcz13_1, hfz13_0, hfz13_1⟩ := bz BK305
    go_wp2_with (first | ((with_reducible refine gate_callee (f := 84) rfl ?_); refine goesL_ (some 7) rfl rfl Tryz.func84 (by kernel_rfl) rfl #[.agg #[.int .i64 a0_0, .int .i64 a0_1]] rfl ma ?_; (with_reducible refine (r8_num.calls a0_0 a0_1 true _ A7.out).mono ?_); rintro e w14 ⟨rfl, hb⟩; refine ⟨_, rfl, ?_⟩; replace BK305 := bkb BK305 hb; replace BK306 := bkb BK306 hb; replace BK307 := bkb BK307 hb; replace HB := bsq w hb; (try clear hb); have hnb15 := NB306_307.out; have hnc15 := NB307_306.out; have hcz16_0 := bz0 BK306; have hcz16_1 := bz1 BK306; have hfz16_0 := blk_frozen BK306.out 0; have hfz16_1 := blk_frozen BK306.out 1) | (go_at_call 84; (with_reducible refine (r8_num.calls a1_0 a1_1 true _ A9.out).mono ?_); rintro e w17 ⟨rfl, hb⟩; replace BK305 := bkb BK305 hb; replace BK306 := bkb BK306 hb; replace BK307 := bkb BK307 hb; replace HB := bsq w hb; (try clear hb); have hcz18_0 := bz0 BK306; have hcz18_1 := bz1 BK306; have hfz18_0 := blk_frozen BK306.out 0; have hfz18_1 := blk_frozen BK306.out 1))
    go_meet
    case rel => exact ⟨_, ((a1_1 == 0)), ae, H', ⟨by first | omega | exact Nat.le_refl _⟩, fwK BK305, fwK BK306, fwK BK307, ⟨bbl⟩⟩
   ·replace c10 := Bool.eq_false_iff.mpr c10
    subst c10
    replace H := iF H
    have H' := Sd.mk H
    clear H
    have hnb19 := NB305_306.out
    have hnc19 := NB306_305.out
    have hnb20 := NB305_307.out
    have hnc20 := NB307_305.out
    obtain ⟨hcz21_0, hcz21_1, hfz21_0, hfz21_1⟩ := bz BK305
    go_wp2_with (first | ((with_reducible refine gate_callee (f := 84) rfl ?_); refine goesL_ (some 7) rfl rfl Tryz.func84 (by kernel_rfl) rfl #[.agg #[.int .i64 a0_0, .int .i64 a0_1]] rfl ma ?_; (with_reducible refine (r8_num.calls a0_0 a0_1 true _ A7.out).mono ?_); rintro e w22 ⟨rfl, hb⟩; refine ⟨_, rfl, ?_⟩; replace BK305 := bkb BK305 hb; replace BK306 := bkb BK306 hb; replace BK307 := bkb BK307 hb; replace HB := bsq w hb; (try clear hb); have hnb23 := NB306_307.out; have hnc23 := NB307_306.out; have hcz24_0 := bz0 BK306; have hcz24_1 := bz1 BK306; have hfz24_0 := blk_frozen BK306.out 0; have hfz24_1 := blk_frozen BK306.out 1) | (go_at_call 84; (with_reducible refine (r8_num.calls a1_0 a1_1 false _ A9.out).mono ?_); rintro e w25 ⟨rfl, hb⟩; replace BK305 := bkb BK305 hb; replace BK306 := bkb BK306 hb; replace BK307 := bkb BK307 hb; replace HB := bsq w hb; (try clear hb)))
    go_meet
    case rel => exact ⟨_, (false), ae, H', ⟨by first | omega | exact Nat.le_refl _⟩, fwK BK305, fwK BK306, fwK BK307, ⟨bbl⟩⟩
  ·replace c8 := Bool.eq_false_iff.mpr c8
   subst c8
   replace H := iF H
   have H' := Sd.mk H
   clear H
   have hnb26 := NB305_306.out
   have hnc26 := NB306_305.out
   have hnb27 := NB305_307.out
   have hnc27 := NB307_305.out
   obtain ⟨hcz28_0, hcz28_1, hfz28_0, hfz28_1⟩ := bz BK305
   go_wp2_with (first | ((with_reducible refine gate_callee (f := 84) rfl ?_); refine goesL_ (some 7) rfl rfl Tryz.func84 (by kernel_rfl) rfl #[.agg #[.int .i64 a0_0, .int .i64 a0_1]] rfl ma ?_; (with_reducible refine (r8_num.calls a0_0 a0_1 false _ A7.out).mono ?_); rintro e w29 ⟨rfl, hb⟩; refine ⟨_, rfl, ?_⟩; replace BK305 := bkb BK305 hb; replace BK306 := bkb BK306 hb; replace BK307 := bkb BK307 hb; replace HB := bsq w hb; (try clear hb)))
   go_meet
   case rel => exact ⟨_, (false), ae, H', ⟨by first | omega | exact Nat.le_refl _⟩, fwK BK305, fwK BK306, fwK BK307, ⟨bbl⟩⟩
 case rest =>
  clear HC3
  obtain ⟨kq, x5_2, rfl, HA, HJ2, BK305, BK306, BK307, HB⟩ := hcut
  cases kq with
  | zero => exact absurd HA.out (by simp [r8_over.j0])
  | succ kj2 =>
   have H := HA.out
   clear HA
   simp only [r8_over.j0] at H
   by_cases c30 : x5_2 = true
   ·subst c30
    replace H := iT H
    obtain ⟨t310, A31, H⟩ := bnd H
    obtain ⟨⟨t311, t312⟩, A32, H⟩ := bnd H
    replace H : (some (t311, t312)) = some (r1, r2) := H
    simp only [Option.some.injEq, Prod.mk.injEq] at H
    obtain ⟨rfl, rfl⟩ := H
    have hnb33 := NB305_306.out
    have hnc33 := NB306_305.out
    have hnb34 := NB305_307.out
    have hnc34 := NB307_305.out
    obtain ⟨hcz35_0, hcz35_1, hfz35_0, hfz35_1⟩ := bz BK305
    go_wp2_with (first | ((with_reducible refine gate_callee (f := 96) rfl ?_); refine goesL_ (some 18) rfl rfl Tryz.func96 (by kernel_rfl) rfl #[.agg #[.int .i64 a0_0, .int .i64 a0_1]] rfl ma ?_; (with_reducible refine (r8_sign.calls kj2 a0_0 a0_1 t310 _ A31.out).mono ?_); rintro e w36 ⟨rfl, hb⟩; refine ⟨_, rfl, ?_⟩; replace BK305 := bkb BK305 hb; replace BK306 := bkb BK306 hb; replace BK307 := bkb BK307 hb; replace HB := bsq w hb; (try clear hb)) | ((with_reducible refine gate_callee (f := 148) rfl ?_); refine goesL_ (some 19) rfl rfl Tryz.func148 (by kernel_rfl) rfl #[.int .i64 t310] rfl ma ?_; (with_reducible refine (r8_beyond.calls t310 t311 t312 _ A32.out).mono ?_); rintro e w37 ⟨rfl, hb⟩; refine ⟨_, rfl, ?_⟩; replace BK305 := bkb BK305 hb; replace BK306 := bkb BK306 hb; replace BK307 := bkb BK307 hb; replace HB := bsq w hb; (try clear hb); have hnb38 := NB307_306.out; have hnc38 := NB306_307.out; have hcz39_0 := bz0 BK307; have hcz39_1 := bz1 BK307; have hfz39_0 := blk_frozen BK307.out 0; have hfz39_1 := blk_frozen BK307.out 1))
    refine bodyPost_ret (results_cell_row rfl _ _ gb307 25 #[.int .i64 t311, .int .i64 t312] (0, 0) _ rfl (by (repeat refine dw ?_); refine blk_put (cs := #[.int .i64 t311, .int .i64 0]) ?_ 1 _ rfl; (repeat refine dw ?_); refine blk_put (cs := #[.int .i64 0, .int .i64 0]) ?_ 0 _ rfl; (repeat refine dw ?_); exact BK307.out) Tryz.underlying25 rfl (by kernel_rfl)) rfl ?_
    exact ⟨fe, bbl⟩
   ·replace c30 := Bool.eq_false_iff.mpr c30
    subst c30
    replace H := iF H
    have HC40 := Sd.mk H
    clear H
    go_upto_region 3 with (fail)
    go_cut [20] (fun v20 wc => ∃ (kq : Nat) (x20_39 : Bool), v20 = .bool x20_39 ∧ Sd (r8_over.j1 kq x20_39 a0_0 a0_1 a1_0 a1_1 = some (r1, r2)) ∧ Sd (kq ≤ kj2) ∧ Sd (wc.heap[gb305]? = some (.cells #[.int .i64 a0_0, .int .i64 a0_1] 25 (0, 0))) ∧ Sd (wc.heap[gb306]? = some (.cells #[.int .i64 a1_0, .int .i64 a1_1] 25 (0, 0))) ∧ Sd (wc.heap[gb307]? = some (.cells #[.int .i64 0, .int .i64 0] 25 (0, 0))) ∧ Sd (Below w.heap.size w wc))
    case first =>
     have H := HC40.out
     clear HC40
     obtain ⟨t313, A41, H⟩ := bnd H
     by_cases c42 : t313 = true
     ·subst c42
      replace H := iT H
      obtain ⟨t314, A43, H⟩ := bnd H
      have H' := Sd.mk H
      clear H
      have hnb44 := NB305_306.out
      have hnc44 := NB306_305.out
      have hnb45 := NB305_307.out
      have hnc45 := NB307_305.out
      obtain ⟨hcz46_0, hcz46_1, hfz46_0, hfz46_1⟩ := bz BK305
      go_wp2_with (first | ((with_reducible refine gate_callee (f := 84) rfl ?_); refine goesL_ (some 22) rfl rfl Tryz.func84 (by kernel_rfl) rfl #[.agg #[.int .i64 a0_0, .int .i64 a0_1]] rfl ma ?_; (with_reducible refine (r8_num.calls a0_0 a0_1 true _ A41.out).mono ?_); rintro e w47 ⟨rfl, hb⟩; refine ⟨_, rfl, ?_⟩; replace BK305 := bkb BK305 hb; replace BK306 := bkb BK306 hb; replace BK307 := bkb BK307 hb; replace HB := bsq w hb; (try clear hb); have hnb48 := NB306_307.out; have hnc48 := NB307_306.out; have hcz49_0 := bz0 BK306; have hcz49_1 := bz1 BK306; have hfz49_0 := blk_frozen BK306.out 0; have hfz49_1 := blk_frozen BK306.out 1) | (go_at_call 84; (with_reducible refine (r8_num.calls a1_0 a1_1 t314 _ A43.out).mono ?_); rintro e w50 ⟨rfl, hb⟩; replace BK305 := bkb BK305 hb; replace BK306 := bkb BK306 hb; replace BK307 := bkb BK307 hb; replace HB := bsq w hb; (try clear hb)))
      go_meet
      case rel => exact ⟨_, (t314), ae, H', ⟨by have := HJ2.out; first | omega | exact Nat.le_refl _⟩, fwK BK305, fwK BK306, fwK BK307, ⟨bbl⟩⟩
     ·replace c42 := Bool.eq_false_iff.mpr c42
      subst c42
      replace H := iF H
      have H' := Sd.mk H
      clear H
      have hnb51 := NB305_306.out
      have hnc51 := NB306_305.out
      have hnb52 := NB305_307.out
      have hnc52 := NB307_305.out
      obtain ⟨hcz53_0, hcz53_1, hfz53_0, hfz53_1⟩ := bz BK305
      go_wp2_with (first | ((with_reducible refine gate_callee (f := 84) rfl ?_); refine goesL_ (some 22) rfl rfl Tryz.func84 (by kernel_rfl) rfl #[.agg #[.int .i64 a0_0, .int .i64 a0_1]] rfl ma ?_; (with_reducible refine (r8_num.calls a0_0 a0_1 false _ A41.out).mono ?_); rintro e w54 ⟨rfl, hb⟩; refine ⟨_, rfl, ?_⟩; replace BK305 := bkb BK305 hb; replace BK306 := bkb BK306 hb; replace BK307 := bkb BK307 hb; replace HB := bsq w hb; (try clear hb)))
      go_meet
      case rel => exact ⟨_, (false), ae, H', ⟨by have := HJ2.out; first | omega | exact Nat.le_refl _⟩, fwK BK305, fwK BK306, fwK BK307, ⟨bbl⟩⟩
    case rest =>
     clear HC40
     obtain ⟨kq, x20_39, rfl, HA, HJ39, BK305, BK306, BK307, HB⟩ := hcut
     cases kq with
     | zero => exact absurd HA.out (by simp [r8_over.j1])
     | succ kj39 =>
      have H := HA.out
      clear HA
      simp only [r8_over.j1] at H
      by_cases c55 : x20_39 = true
      ·subst c55
       replace H := iT H
       by_cases c56 : a1_1 = 0
       ·rw [if_pos c56] at H
        exact absurd H (by simp)
       ·rw [if_neg c56] at H
        have c56b0 := beq_eq_false_iff_ne.mpr c56
        have c56b1 := bne_iff_ne.mpr c56
        obtain ⟨⟨t315, t316⟩, A57, H⟩ := bnd H
        replace H : (some (t315, t316)) = some (r1, r2) := H
        simp only [Option.some.injEq, Prod.mk.injEq] at H
        obtain ⟨rfl, rfl⟩ := H
        have hnb58 := NB305_306.out
        have hnc58 := NB306_305.out
        have hnb59 := NB305_307.out
        have hnc59 := NB307_305.out
        obtain ⟨hcz60_0, hcz60_1, hfz60_0, hfz60_1⟩ := bz BK305
        have hnb61 := NB306_307.out
        have hnc61 := NB307_306.out
        obtain ⟨hcz62_0, hcz62_1, hfz62_0, hfz62_1⟩ := bz BK306
        go_wp2_with (first | ((with_reducible refine gate_callee (f := 27) rfl ?_); refine goesL_ (some 33) rfl rfl Tryz.func27 (by kernel_rfl) rfl #[.int .i64 (wrap64 (Int.tdiv (wrap64 (a0_1 * 1000)) a1_1))] rfl ma ?_; (with_reducible refine (r8_Num.calls (wrap64 (Int.tdiv (wrap64 (a0_1 * 1000)) a1_1)) t315 t316 _ A57.out).mono ?_); rintro e w63 ⟨rfl, hb⟩; refine ⟨_, rfl, ?_⟩; replace BK305 := bkb BK305 hb; replace BK306 := bkb BK306 hb; replace BK307 := bkb BK307 hb; replace HB := bsq w hb; (try clear hb); have hcz64_0 := bz0 BK307; have hcz64_1 := bz1 BK307; have hfz64_0 := blk_frozen BK307.out 0; have hfz64_1 := blk_frozen BK307.out 1))
        refine bodyPost_ret (results_cell_row rfl _ _ gb307 25 #[.int .i64 t315, .int .i64 t316] (0, 0) _ rfl (by (repeat refine dw ?_); refine blk_put (cs := #[.int .i64 t315, .int .i64 0]) ?_ 1 _ rfl; (repeat refine dw ?_); refine blk_put (cs := #[.int .i64 0, .int .i64 0]) ?_ 0 _ rfl; (repeat refine dw ?_); exact BK307.out) Tryz.underlying25 rfl (by kernel_rfl)) rfl ?_
        exact ⟨fe, bbl⟩
      ·replace c55 := Bool.eq_false_iff.mpr c55
       subst c55
       replace H := iF H
       obtain ⟨t317, A65, H⟩ := bnd H
       by_cases c66 : t317 = true
       ·subst c66
        replace H := iT H
        obtain ⟨⟨t318, t319⟩, A67, H⟩ := bnd H
        replace H : (some (t318, t319)) = some (r1, r2) := H
        simp only [Option.some.injEq, Prod.mk.injEq] at H
        obtain ⟨rfl, rfl⟩ := H
        have hnb68 := NB305_306.out
        have hnc68 := NB306_305.out
        have hnb69 := NB305_307.out
        have hnc69 := NB307_305.out
        obtain ⟨hcz70_0, hcz70_1, hfz70_0, hfz70_1⟩ := bz BK305
        go_wp2_with (first | ((with_reducible refine gate_callee (f := 84) rfl ?_); refine goesL_ (some 36) rfl rfl Tryz.func84 (by kernel_rfl) rfl #[.agg #[.int .i64 a0_0, .int .i64 a0_1]] rfl ma ?_; (with_reducible refine (r8_num.calls a0_0 a0_1 true _ A65.out).mono ?_); rintro e w71 ⟨rfl, hb⟩; refine ⟨_, rfl, ?_⟩; replace BK305 := bkb BK305 hb; replace BK306 := bkb BK306 hb; replace BK307 := bkb BK307 hb; replace HB := bsq w hb; (try clear hb)) | ((with_reducible refine gate_callee (f := 27) rfl ?_); refine goesL_ (some 37) rfl rfl Tryz.func27 (by kernel_rfl) rfl #[.int .i64 0] rfl ma ?_; (with_reducible refine (r8_Num.calls 0 t318 t319 _ A67.out).mono ?_); rintro e w72 ⟨rfl, hb⟩; refine ⟨_, rfl, ?_⟩; replace BK305 := bkb BK305 hb; replace BK306 := bkb BK306 hb; replace BK307 := bkb BK307 hb; replace HB := bsq w hb; (try clear hb); have hnb73 := NB307_306.out; have hnc73 := NB306_307.out; have hcz74_0 := bz0 BK307; have hcz74_1 := bz1 BK307; have hfz74_0 := blk_frozen BK307.out 0; have hfz74_1 := blk_frozen BK307.out 1))
        refine bodyPost_ret (results_cell_row rfl _ _ gb307 25 #[.int .i64 t318, .int .i64 t319] (0, 0) _ rfl (by (repeat refine dw ?_); refine blk_put (cs := #[.int .i64 t318, .int .i64 0]) ?_ 1 _ rfl; (repeat refine dw ?_); refine blk_put (cs := #[.int .i64 0, .int .i64 0]) ?_ 0 _ rfl; (repeat refine dw ?_); exact BK307.out) Tryz.underlying25 rfl (by kernel_rfl)) rfl ?_
        exact ⟨fe, bbl⟩
       ·replace c66 := Bool.eq_false_iff.mpr c66
        subst c66
        replace H := iF H
        have HC75 := Sd.mk H
        clear H
        have hnb76 := NB305_306.out
        have hnc76 := NB306_305.out
        have hnb77 := NB305_307.out
        have hnc77 := NB307_305.out
        obtain ⟨hcz78_0, hcz78_1, hfz78_0, hfz78_1⟩ := bz BK305
        go_upto_region 7 with (first | ((with_reducible refine gate_callee (f := 84) rfl ?_); refine goesL_ (some 36) rfl rfl Tryz.func84 (by kernel_rfl) rfl #[.agg #[.int .i64 a0_0, .int .i64 a0_1]] rfl ma ?_; (with_reducible refine (r8_num.calls a0_0 a0_1 false _ A65.out).mono ?_); rintro e w79 ⟨rfl, hb⟩; refine ⟨_, rfl, ?_⟩; replace BK305 := bkb BK305 hb; replace BK306 := bkb BK306 hb; replace BK307 := bkb BK307 hb; replace HB := bsq w hb; (try clear hb)))
        (try simp only [Act.put, List.setIfInBounds_toArray, List.set_cons_zero, List.set_cons_succ])
        go_cut [38] (fun v38 wc => ∃ (kq : Nat) (x38_74 : Bool), v38 = .bool x38_74 ∧ Sd (r8_over.j2 kq x38_74 a0_0 a0_1 a1_0 a1_1 = some (r1, r2)) ∧ Sd (kq ≤ kj39) ∧ Sd (wc.heap[gb305]? = some (.cells #[.int .i64 a0_0, .int .i64 a0_1] 25 (0, 0))) ∧ Sd (wc.heap[gb306]? = some (.cells #[.int .i64 a1_0, .int .i64 a1_1] 25 (0, 0))) ∧ Sd (wc.heap[gb307]? = some (.cells #[.int .i64 0, .int .i64 0] 25 (0, 0))) ∧ Sd (Below w.heap.size w wc))
        case first =>
         have H := HC75.out
         clear HC75
         obtain ⟨t320, A80, H⟩ := bnd H
         by_cases c81 : t320 = true
         ·subst c81
          replace H := iT H
          have H' := Sd.mk H
          clear H
          have hnb82 := NB306_305.out
          have hnc82 := NB305_306.out
          have hnb83 := NB306_307.out
          have hnc83 := NB307_306.out
          obtain ⟨hcz84_0, hcz84_1, hfz84_0, hfz84_1⟩ := bz BK306
          go_wp2_with (first | ((with_reducible refine gate_callee (f := 84) rfl ?_); refine goesL_ (some 40) rfl rfl Tryz.func84 (by kernel_rfl) rfl #[.agg #[.int .i64 a1_0, .int .i64 a1_1]] rfl ma ?_; (with_reducible refine (r8_num.calls a1_0 a1_1 true _ A80.out).mono ?_); rintro e w85 ⟨rfl, hb⟩; refine ⟨_, rfl, ?_⟩; replace BK305 := bkb BK305 hb; replace BK306 := bkb BK306 hb; replace BK307 := bkb BK307 hb; replace HB := bsq w hb; (try clear hb); have hcz86_0 := bz0 BK306; have hcz86_1 := bz1 BK306; have hfz86_0 := blk_frozen BK306.out 0; have hfz86_1 := blk_frozen BK306.out 1))
          go_meet
          case rel => exact ⟨_, (decide (a1_1 < 0)), ae, H', ⟨by have := HJ2.out; have := HJ39.out; first | omega | exact Nat.le_refl _⟩, fwK BK305, fwK BK306, fwK BK307, ⟨bbl⟩⟩
         ·replace c81 := Bool.eq_false_iff.mpr c81
          subst c81
          replace H := iF H
          have H' := Sd.mk H
          clear H
          have hnb87 := NB306_305.out
          have hnc87 := NB305_306.out
          have hnb88 := NB306_307.out
          have hnc88 := NB307_306.out
          obtain ⟨hcz89_0, hcz89_1, hfz89_0, hfz89_1⟩ := bz BK306
          go_wp2_with (first | ((with_reducible refine gate_callee (f := 84) rfl ?_); refine goesL_ (some 40) rfl rfl Tryz.func84 (by kernel_rfl) rfl #[.agg #[.int .i64 a1_0, .int .i64 a1_1]] rfl ma ?_; (with_reducible refine (r8_num.calls a1_0 a1_1 false _ A80.out).mono ?_); rintro e w90 ⟨rfl, hb⟩; refine ⟨_, rfl, ?_⟩; replace BK305 := bkb BK305 hb; replace BK306 := bkb BK306 hb; replace BK307 := bkb BK307 hb; replace HB := bsq w hb; (try clear hb)))
          go_meet
          case rel => exact ⟨_, (false), ae, H', ⟨by have := HJ2.out; have := HJ39.out; first | omega | exact Nat.le_refl _⟩, fwK BK305, fwK BK306, fwK BK307, ⟨bbl⟩⟩
        case rest =>
         clear HC75
         obtain ⟨kq, x38_74, rfl, HA, HJ74, BK305, BK306, BK307, HB⟩ := hcut
         cases kq with
         | zero => exact absurd HA.out (by simp [r8_over.j2])
         | succ kj74 =>
          have H := HA.out
          clear HA
          simp only [r8_over.j2] at H
          by_cases c91 : x38_74 = true
          ·subst c91
           replace H := iT H
           obtain ⟨⟨t321, t322⟩, A92, H⟩ := bnd H
           replace H : (some (t321, t322)) = some (r1, r2) := H
           simp only [Option.some.injEq, Prod.mk.injEq] at H
           obtain ⟨rfl, rfl⟩ := H
           have hnb93 := NB305_306.out
           have hnc93 := NB306_305.out
           have hnb94 := NB305_307.out
           have hnc94 := NB307_305.out
           obtain ⟨hcz95_0, hcz95_1, hfz95_0, hfz95_1⟩ := bz BK305
           go_wp2_with (first | ((with_reducible refine gate_callee (f := 97) rfl ?_); refine goesL_ (some 47) rfl rfl Tryz.func97 (by kernel_rfl) rfl #[.agg #[.int .i64 a0_0, .int .i64 a0_1]] rfl ma ?_; (with_reducible refine (r8_turned.calls a0_0 a0_1 t321 t322 _ A92.out).mono ?_); rintro e w96 ⟨rfl, hb⟩; refine ⟨_, rfl, ?_⟩; replace BK305 := bkb BK305 hb; replace BK306 := bkb BK306 hb; replace BK307 := bkb BK307 hb; replace HB := bsq w hb; (try clear hb); have hnb97 := NB307_306.out; have hnc97 := NB306_307.out; have hcz98_0 := bz0 BK307; have hcz98_1 := bz1 BK307; have hfz98_0 := blk_frozen BK307.out 0; have hfz98_1 := blk_frozen BK307.out 1))
           refine bodyPost_ret (results_cell_row rfl _ _ gb307 25 #[.int .i64 t321, .int .i64 t322] (0, 0) _ rfl (by (repeat refine dw ?_); refine blk_put (cs := #[.int .i64 t321, .int .i64 0]) ?_ 1 _ rfl; (repeat refine dw ?_); refine blk_put (cs := #[.int .i64 0, .int .i64 0]) ?_ 0 _ rfl; (repeat refine dw ?_); exact BK307.out) Tryz.underlying25 rfl (by kernel_rfl)) rfl ?_
           exact ⟨fe, bbl⟩
          ·replace c91 := Bool.eq_false_iff.mpr c91
           subst c91
           replace H := iF H
           obtain ⟨t323, A99, H⟩ := bnd H
           by_cases c100 : t323 = true
           ·subst c100
            replace H := iT H
            simp only [Option.some.injEq, Prod.mk.injEq] at H
            obtain ⟨rfl, rfl⟩ := H
            have hnb101 := NB306_305.out
            have hnc101 := NB305_306.out
            have hnb102 := NB306_307.out
            have hnc102 := NB307_306.out
            obtain ⟨hcz103_0, hcz103_1, hfz103_0, hfz103_1⟩ := bz BK306
            go_wp2_with (first | ((with_reducible refine gate_callee (f := 84) rfl ?_); refine goesL_ (some 50) rfl rfl Tryz.func84 (by kernel_rfl) rfl #[.agg #[.int .i64 a1_0, .int .i64 a1_1]] rfl ma ?_; (with_reducible refine (r8_num.calls a1_0 a1_1 true _ A99.out).mono ?_); rintro e w104 ⟨rfl, hb⟩; refine ⟨_, rfl, ?_⟩; replace BK305 := bkb BK305 hb; replace BK306 := bkb BK306 hb; replace BK307 := bkb BK307 hb; replace HB := bsq w hb; (try clear hb); have hnb105 := NB305_307.out; have hnc105 := NB307_305.out; have hcz106_0 := bz0 BK305; have hcz106_1 := bz1 BK305; have hfz106_0 := blk_frozen BK305.out 0; have hfz106_1 := blk_frozen BK305.out 1; have hcz107_0 := bz0 BK307; have hcz107_1 := bz1 BK307; have hfz107_0 := blk_frozen BK307.out 0; have hfz107_1 := blk_frozen BK307.out 1))
            refine bodyPost_ret (results_cell_row rfl _ _ gb307 25 #[.int .i64 a0_0, .int .i64 a0_1] (0, 0) _ rfl (by (repeat refine dw ?_); refine blk_put (cs := #[.int .i64 a0_0, .int .i64 0]) ?_ 1 _ rfl; (repeat refine dw ?_); refine blk_put (cs := #[.int .i64 0, .int .i64 0]) ?_ 0 _ rfl; (repeat refine dw ?_); exact BK307.out) Tryz.underlying25 rfl (by kernel_rfl)) rfl ?_
            exact ⟨fe, bbl⟩
           ·replace c100 := Bool.eq_false_iff.mpr c100
            subst c100
            replace H := iF H
            obtain ⟨⟨t324, t325⟩, A108, H⟩ := bnd H
            replace H : (some (t324, t325)) = some (r1, r2) := H
            simp only [Option.some.injEq, Prod.mk.injEq] at H
            obtain ⟨rfl, rfl⟩ := H
            have hnb109 := NB306_305.out
            have hnc109 := NB305_306.out
            have hnb110 := NB306_307.out
            have hnc110 := NB307_306.out
            obtain ⟨hcz111_0, hcz111_1, hfz111_0, hfz111_1⟩ := bz BK306
            go_wp2_with (first | ((with_reducible refine gate_callee (f := 84) rfl ?_); refine goesL_ (some 50) rfl rfl Tryz.func84 (by kernel_rfl) rfl #[.agg #[.int .i64 a1_0, .int .i64 a1_1]] rfl ma ?_; (with_reducible refine (r8_num.calls a1_0 a1_1 false _ A99.out).mono ?_); rintro e w112 ⟨rfl, hb⟩; refine ⟨_, rfl, ?_⟩; replace BK305 := bkb BK305 hb; replace BK306 := bkb BK306 hb; replace BK307 := bkb BK307 hb; replace HB := bsq w hb; (try clear hb)) | ((with_reducible refine gate_callee (f := 29) rfl ?_); refine goesL_ (some 52) rfl rfl Tryz.func29 (by kernel_rfl) rfl #[] rfl ma ?_; (with_reducible refine (r8_NaN.calls  t324 t325 _ A108.out).mono ?_); rintro e w113 ⟨rfl, hb⟩; refine ⟨_, rfl, ?_⟩; replace BK305 := bkb BK305 hb; replace BK306 := bkb BK306 hb; replace BK307 := bkb BK307 hb; replace HB := bsq w hb; (try clear hb); have hnb114 := NB307_305.out; have hnc114 := NB305_307.out; have hcz115_0 := bz0 BK307; have hcz115_1 := bz1 BK307; have hfz115_0 := blk_frozen BK307.out 0; have hfz115_1 := blk_frozen BK307.out 1))
            refine bodyPost_ret (results_cell_row rfl _ _ gb307 25 #[.int .i64 t324, .int .i64 t325] (0, 0) _ rfl (by (repeat refine dw ?_); refine blk_put (cs := #[.int .i64 t324, .int .i64 0]) ?_ 1 _ rfl; (repeat refine dw ?_); refine blk_put (cs := #[.int .i64 0, .int .i64 0]) ?_ 0 _ rfl; (repeat refine dw ?_); exact BK307.out) Tryz.underlying25 rfl (by kernel_rfl)) rfl ?_
            exact ⟨fe, bbl⟩
def r10_in.l0 : Nat → List ByteArray → ByteArray → Int → Option (Bool)
 | 0, _, _, _ => none
 | k + 1, x0, x1, x5 => if x5 < (x0.length : Int) then (if 0 ≤ x5 then (if (rdOf ByteArray.empty x0 x5).toList = x1.toList then (some true) else (r10_in.l0 k x0 x1 (wrap64 (x5 + 1)))) else (none)) else (some false)
def r10_in.f (k : Nat) (l0 : List ByteArray) (a1 : ByteArray) : Option (Bool) := r10_in.l0 k l0 a1 0
theorem r10_in.calls (k : Nat) (A0 : Option Addr) (c0 : Nat) (l0 : List ByteArray) (a1 : ByteArray) (r : Bool) (w : World) (hr0 : Kd.C Kd.string w A0 l0.length l0) (hc0 : l0.length ≤ c0) (h : r10_in.f k l0 a1 = some r) :
  Calls Tryz.prog 46 #[.slice A0 l0.length c0, .string a1] w fun e w' => e = .returned (.bool r) ∧ Drawn0 w w' := by
 have HR0 := Sd.mk hr0
 have HC0 := Sd.mk hc0
 clear hr0 hc0
 have H : (r10_in.l0 k l0 a1 0) = some r := h
 clear h
 have H' := Sd.mk H
 clear H
 go_enter Tryz.func46, Tryz.ntmps46
 go_wp2
 go_loopg [5] k (fun kq v5 w' => ∃ (x5_1 : Int), v5 = .int .i64 x5_1 ∧ Sd (r10_in.l0 kq l0 a1 x5_1 = some r) ∧ Sd (kq ≤ k) ∧ Drawn0 w w')
 case atStart => exact ⟨(0), ae, H', ⟨Nat.le_refl _⟩, by repeat (first | exact Drawn0.refl _ | apply Drawn0.step)⟩
 case round =>
  clear H'
  obtain ⟨x5_1, rfl, HA, HK1, ⟨m1, rfl⟩⟩ := hrel
  cases gk with
  | zero => exact absurd HA.out (by simp [r10_in.l0])
  | succ k1 =>
   have H := HA.out
   clear HA
   simp only [r10_in.l0] at H
   by_cases c3 : x5_1 < (l0.length : Int)
   ·rw [if_pos c3] at H
    have c3b0 : decide (x5_1 < (l0.length : Int)) = true := decide_eq_true c3
    clear c3
    by_cases c4 : 0 ≤ x5_1
    ·rw [if_pos c4] at H
     have c4b0 : decide (0 ≤ x5_1) = true := decide_eq_true c4
     clear c4
     by_cases c5 : (rdOf ByteArray.empty l0 x5_1).toList = a1.toList
     ·rw [if_pos c5] at H
      have c5b0 : ((rdOf ByteArray.empty l0 x5_1).toList == a1.toList) = true := beq_iff_eq.mpr c5
      have c5b1 : ((rdOf ByteArray.empty l0 x5_1).toList != a1.toList) = false := bne_eq_false_iff_eq.mpr c5
      clear c5
      obtain rfl := Option.some.inj H
      have p420 : 0 ≤ (x5_1 : Int) := ode
      have q420 : x5_1 < (l0.length : Int) := ode
      obtain ⟨ad420, e420, hx420_0⟩ := Kd.at_string HR0.out x5_1 p420 q420
      cases e420
      replace p420 := eq_true p420
      replace q420 := eq_true q420
      go_wp2
      go_ret
      exact ⟨ae, by repeat (first | exact Drawn0.refl _ | apply Drawn0.step)⟩
     ·rw [if_neg c5] at H
      have c5b0 : ((rdOf ByteArray.empty l0 x5_1).toList == a1.toList) = false := beq_eq_false_iff_ne.mpr c5
      have c5b1 : ((rdOf ByteArray.empty l0 x5_1).toList != a1.toList) = true := bne_iff_ne.mpr c5
      have H' := Sd.mk H
      clear H
      have p420 : 0 ≤ (x5_1 : Int) := ode
      have q420 : x5_1 < (l0.length : Int) := ode
      obtain ⟨ad420, e420, hx420_0⟩ := Kd.at_string HR0.out x5_1 p420 q420
      cases e420
      replace p420 := eq_true p420
      replace q420 := eq_true q420
      go_wp2
      go_roundg k1
      case measure => have := HK1.out; omega
      case rel => exact ⟨(wrap64 (x5_1 + 1)), ae, H', ⟨by have := HK1.out; omega⟩, by repeat (first | exact Drawn0.refl _ | apply Drawn0.step)⟩
    ·rw [if_neg c4] at H
     exact absurd H (by simp)
   ·rw [if_neg c3] at H
    have c3b0 : decide (x5_1 < (l0.length : Int)) = false := decide_eq_false c3
    clear c3
    obtain rfl := Option.some.inj H
    go_wp2
    go_ret
    exact ⟨ae, by repeat (first | exact Drawn0.refl _ | apply Drawn0.step)⟩
def r10_odd.f (a0_0 : Int) (a0_1 : Int) : Option (Bool) := if a0_0 = 2 then (some true) else (some (a0_0 == 3))
theorem r10_odd.calls (a0_0 : Int) (a0_1 : Int) (r : Bool) (w : World) (h : r10_odd.f a0_0 a0_1 = some r) :
  Calls Tryz.prog 47 #[.agg #[.int .i64 a0_0, .int .i64 a0_1]] w fun e w' => e = .returned (.bool r) ∧ Below w.heap.size w w' := by
 have hu25 := Tryz.underlying25
 have HB := Sd.mk (Below.refl w.heap.size w)
 have H : (if a0_0 = 2 then (some true) else (some (a0_0 == 3))) = some r := h
 clear h
 by_cases c2 : a0_0 = 2
 ·rw [if_pos c2] at H
  have c2b0 := beq_iff_eq.mpr c2
  have c2b1 := bne_eq_false_iff_eq.mpr c2
  clear c2
  obtain rfl := Option.some.inj H
  go_enter Tryz.func47, Tryz.ntmps47
  go_wp2_with (first | ((with_reducible refine gate_dst (N := 1) rfl ?_); refine bxe (N := 1) (cs := #[.int .i64 a0_0, .int .i64 a0_1]) (t := 25) ?_; intro gb421 hg w3 hbox hb; have BK421 := Sd.mk hbox; have GW421 := bge w hg; have GE421 := bge w hg; replace HB := bsq w hb; clear hb hbox hg; have hcz4_0 := bz0 BK421; have hcz4_1 := bz1 BK421; have hfz4_0 := blk_frozen BK421.out 0; have hfz4_1 := blk_frozen BK421.out 1))
  go_ret
  exact ⟨fe, bbl⟩
 ·rw [if_neg c2] at H
  have c2b0 := beq_eq_false_iff_ne.mpr c2
  have c2b1 := bne_iff_ne.mpr c2
  obtain rfl := Option.some.inj H
  go_enter Tryz.func47, Tryz.ntmps47
  go_wp2_with (first | ((with_reducible refine gate_dst (N := 1) rfl ?_); refine bxe (N := 1) (cs := #[.int .i64 a0_0, .int .i64 a0_1]) (t := 25) ?_; intro gb421 hg w5 hbox hb; have BK421 := Sd.mk hbox; have GW421 := bge w hg; have GE421 := bge w hg; replace HB := bsq w hb; clear hb hbox hg; have hcz6_0 := bz0 BK421; have hcz6_1 := bz1 BK421; have hfz6_0 := blk_frozen BK421.out 0; have hfz6_1 := blk_frozen BK421.out 1))
  go_ret
  exact ⟨fe, bbl⟩
mutual
def q8_two.l0 : Nat → ByteArray → Bool → List ByteArray → Int → Int → Int → Int → Int → Option (Int × Int × Bool)
  | 0, _, _, _, _, _, _, _, _ => none
  | k + 1, x0, x8, x9, x10, x327000, x327001, x328000, x328001 => if x10 < (x9.length : Int) then (if x8 = true then (q8_two.l0 k x0 true x9 (wrap64 (x10 + 1)) x327000 x327001 x328000 x328001) else (if 0 ≤ x10 then (q8_two.l0 k x0 ((rdOf ByteArray.empty x9 x10).toList == x0.toList) x9 (wrap64 (x10 + 1)) x327000 x327001 x328000 x328001) else (none))) else (if x8 = true then (if x327000 = 2 then (q8_two.j1 k x0 true x327000 x327001 x328000 x328001) else (q8_two.j1 k x0 (x328000 == 2) x327000 x327001 x328000 x328001)) else (some (0, 0, false)))
def q8_two.j1 : Nat → ByteArray → Bool → Int → Int → Int → Int → Option (Int × Int × Bool)
  | 0, _, _, _, _, _, _ => none
  | k + 1, x0, x38, x327000, x327001, x328000, x328001 => if x38 = true then ((r8_Null.f).bind fun bt333 => (some (bt333.1, bt333.2, true))) else (if x327000 = 3 then (q8_two.j2 k x0 true x327000 x327001 x328000 x328001) else (q8_two.j2 k x0 (x328000 == 3) x327000 x327001 x328000 x328001))
def q8_two.j2 : Nat → ByteArray → Bool → Int → Int → Int → Int → Option (Int × Int × Bool)
  | 0, _, _, _, _, _, _ => none
  | k + 1, x0, x11, x327000, x327001, x328000, x328001 => if x0.toList = ([38, 38] : List UInt8) then (none) else (if x0.toList = ([124, 124] : List UInt8) then (none) else (if x0.toList = ([61, 61] : List UInt8) then (none) else (if x0.toList = ([33, 61] : List UInt8) then (none) else (if x0.toList = ([60] : List UInt8) then (none) else (if x0.toList = ([60, 61] : List UInt8) then (none) else (if x0.toList = ([62] : List UInt8) then (none) else (if x0.toList = ([62, 61] : List UInt8) then (none) else (if x11 = true then ((r8_NaN.f).bind fun bt375 => (some (bt375.1, bt375.2, true))) else (if x0.toList = ([43] : List UInt8) then ((r8_add.f k x327000 x327001 x328000 x328001).bind fun bt377 => (some (bt377.1, bt377.2, true))) else (if x0.toList = ([45] : List UInt8) then (none) else (if x0.toList = ([42] : List UInt8) then (none) else ((r8_over.f k x327000 x327001 x328000 x328001).bind fun bt385 => (some (bt385.1, bt385.2, true))))))))))))))
end
def q8_two.f (k : Nat) (a0 : ByteArray) (a1_0 : Int) (a1_1 : Int) (a2_0 : Int) (a2_1 : Int) : Option (Int × Int × Bool) := q8_two.l0 k a0 false (([(⟨#[43]⟩ : ByteArray), (⟨#[45]⟩ : ByteArray), (⟨#[42]⟩ : ByteArray), (⟨#[47]⟩ : ByteArray), (⟨#[61, 61]⟩ : ByteArray), (⟨#[33, 61]⟩ : ByteArray), (⟨#[60]⟩ : ByteArray), (⟨#[60, 61]⟩ : ByteArray), (⟨#[62]⟩ : ByteArray), (⟨#[62, 61]⟩ : ByteArray), (⟨#[38, 38]⟩ : ByteArray), (⟨#[124, 124]⟩ : ByteArray)] : List ByteArray)) 0 a1_0 a1_1 a2_0 a2_1
theorem q8_two.calls (k : Nat) (a0 : ByteArray) (a1_0 : Int) (a1_1 : Int) (a2_0 : Int) (a2_1 : Int) (r1 : Int) (r2 : Int) (r3 : Bool) (w : World) (h : q8_two.f k a0 a1_0 a1_1 a2_0 a2_1 = some (r1, r2, r3)) :
    Calls Tryz.prog 61 #[.string a0, .agg #[.int .i64 a1_0, .int .i64 a1_1], .agg #[.int .i64 a2_0, .int .i64 a2_1]] w fun e w' => e = .returned (.tuple #[.agg #[.int .i64 r1, .int .i64 r2], .bool r3]) ∧ Below w.heap.size w w' := by
  have hu25 := Tryz.underlying25
  have HB := Sd.mk (Below.refl w.heap.size w)
  have H : (q8_two.l0 k a0 false (([(⟨#[43]⟩ : ByteArray), (⟨#[45]⟩ : ByteArray), (⟨#[42]⟩ : ByteArray), (⟨#[47]⟩ : ByteArray), (⟨#[61, 61]⟩ : ByteArray), (⟨#[33, 61]⟩ : ByteArray), (⟨#[60]⟩ : ByteArray), (⟨#[60, 61]⟩ : ByteArray), (⟨#[62]⟩ : ByteArray), (⟨#[62, 61]⟩ : ByteArray), (⟨#[38, 38]⟩ : ByteArray), (⟨#[124, 124]⟩ : ByteArray)] : List ByteArray)) 0 a1_0 a1_1 a2_0 a2_1) = some (r1, r2, r3) := h
  clear h
  obtain ⟨y329, hy329⟩ : ∃ y_ : List ByteArray, y_ = (([(⟨#[43]⟩ : ByteArray), (⟨#[45]⟩ : ByteArray), (⟨#[42]⟩ : ByteArray), (⟨#[47]⟩ : ByteArray), (⟨#[61, 61]⟩ : ByteArray), (⟨#[33, 61]⟩ : ByteArray), (⟨#[60]⟩ : ByteArray), (⟨#[60, 61]⟩ : ByteArray), (⟨#[62]⟩ : ByteArray), (⟨#[62, 61]⟩ : ByteArray), (⟨#[38, 38]⟩ : ByteArray), (⟨#[124, 124]⟩ : ByteArray)] : List ByteArray)) := ⟨_, rfl⟩
  replace H : (q8_two.l0 k a0 false y329 0 a1_0 a1_1 a2_0 a2_1) = some (r1, r2, r3) := by first | (rw [hy329]; with_reducible exact H) | (have H2_ := (Option.bind_some _ _).symm.trans H; rw [hy329]; with_reducible exact H2_) | (have H2_ := (Option.bind_some _ _).symm.trans H; with_reducible exact H2_) | with_reducible exact H | (rw [hy329]; exact H) | exact H
  have Ny329 := Sd.mk hy329
  clear hy329
  have H' := Sd.mk H
  clear H
  go_enter Tryz.func61, Tryz.ntmps61
  go_wp2_with (first | ((with_reducible refine gate_dst (N := 4) rfl ?_); refine bxe (N := 4) (cs := #[.int .i64 a1_0, .int .i64 a1_1]) (t := 25) ?_; intro gb326 hg w4 hbox hb; have BK326 := Sd.mk hbox; have GW326 := bge w hg; have GE326 := bge w hg; replace HB := bsq w hb; clear hb hbox hg) | ((with_reducible refine gate_dst (N := 5) rfl ?_); refine bxe (N := 5) (cs := #[.int .i64 a2_0, .int .i64 a2_1]) (t := 25) ?_; intro gb327 hg w5 hbox hb; have BK327 := Sd.mk hbox; have GW327 := bge w hg; have GE327 := bge w hg; have NB326_327 := bnl BK326 hg; have NB327_326 := bng BK326 hg; replace BK326 := bkb BK326 hb; replace HB := bsq w hb; clear hb hbox hg) | ((with_reducible refine gate_dst (N := 6) rfl ?_); refine bxe (N := 6) (cs := #[.int .i64 0, .int .i64 0]) (t := 25) ?_; intro gb328 hg w6 hbox hb; have BK328 := Sd.mk hbox; have GW328 := bge w hg; have GE328 := bge w hg; have NB326_328 := bnl BK326 hg; have NB328_326 := bng BK326 hg; have NB327_328 := bnl BK327 hg; have NB328_327 := bng BK327 hg; replace BK326 := bkb BK326 hb; replace BK327 := bkb BK327 hb; replace HB := bsq w hb; clear hb hbox hg) | ((with_reducible refine gate_dst (N := 12) rfl ?_); refine Kd.R_lit Kd.string _ 9 ?hg (N := 12) ?hd (xs := ([(⟨#[43]⟩ : ByteArray), (⟨#[45]⟩ : ByteArray), (⟨#[42]⟩ : ByteArray), (⟨#[47]⟩ : ByteArray), (⟨#[61, 61]⟩ : ByteArray), (⟨#[33, 61]⟩ : ByteArray), (⟨#[60]⟩ : ByteArray), (⟨#[60, 61]⟩ : ByteArray), (⟨#[62]⟩ : ByteArray), (⟨#[62, 61]⟩ : ByteArray), (⟨#[38, 38]⟩ : ByteArray), (⟨#[124, 124]⟩ : ByteArray)] : List ByteArray)) (inner := [.string (⟨#[43]⟩ : ByteArray), .string (⟨#[45]⟩ : ByteArray), .string (⟨#[42]⟩ : ByteArray), .string (⟨#[47]⟩ : ByteArray), .string (⟨#[61, 61]⟩ : ByteArray), .string (⟨#[33, 61]⟩ : ByteArray), .string (⟨#[60]⟩ : ByteArray), .string (⟨#[60, 61]⟩ : ByteArray), .string (⟨#[62]⟩ : ByteArray), .string (⟨#[62, 61]⟩ : ByteArray), .string (⟨#[38, 38]⟩ : ByteArray), .string (⟨#[124, 124]⟩ : ByteArray)]) (ok := fun _ => True) (okp := fun _ => True) ?hr ?hp (fun _ hk => hk) trivial (Below.refl _ _) (Nat.le_refl _) (by simp) ?_; (case hd => rfl); (case hg => rfl); (case hr => first | (go_simp; done) | (go_simp; rfl)); (case hp => exact (Reps.one (show Kd.M Kd.string _ _ _ (⟨#[43]⟩ : ByteArray) [.string (⟨#[43]⟩ : ByteArray)] from rfl) (Reps.one (show Kd.M Kd.string _ _ _ (⟨#[45]⟩ : ByteArray) [.string (⟨#[45]⟩ : ByteArray)] from rfl) (Reps.one (show Kd.M Kd.string _ _ _ (⟨#[42]⟩ : ByteArray) [.string (⟨#[42]⟩ : ByteArray)] from rfl) (Reps.one (show Kd.M Kd.string _ _ _ (⟨#[47]⟩ : ByteArray) [.string (⟨#[47]⟩ : ByteArray)] from rfl) (Reps.one (show Kd.M Kd.string _ _ _ (⟨#[61, 61]⟩ : ByteArray) [.string (⟨#[61, 61]⟩ : ByteArray)] from rfl) (Reps.one (show Kd.M Kd.string _ _ _ (⟨#[33, 61]⟩ : ByteArray) [.string (⟨#[33, 61]⟩ : ByteArray)] from rfl) (Reps.one (show Kd.M Kd.string _ _ _ (⟨#[60]⟩ : ByteArray) [.string (⟨#[60]⟩ : ByteArray)] from rfl) (Reps.one (show Kd.M Kd.string _ _ _ (⟨#[60, 61]⟩ : ByteArray) [.string (⟨#[60, 61]⟩ : ByteArray)] from rfl) (Reps.one (show Kd.M Kd.string _ _ _ (⟨#[62]⟩ : ByteArray) [.string (⟨#[62]⟩ : ByteArray)] from rfl) (Reps.one (show Kd.M Kd.string _ _ _ (⟨#[62, 61]⟩ : ByteArray) [.string (⟨#[62, 61]⟩ : ByteArray)] from rfl) (Reps.one (show Kd.M Kd.string _ _ _ (⟨#[38, 38]⟩ : ByteArray) [.string (⟨#[38, 38]⟩ : ByteArray)] from rfl) (Reps.one (show Kd.M Kd.string _ _ _ (⟨#[124, 124]⟩ : ByteArray) [.string (⟨#[124, 124]⟩ : ByteArray)] from rfl) (Reps.none _ _)))))))))))))); intro v330 w7 ho8 hb hg_ hnew_; clear hg_ hnew_; (first | rw [← Ny329.out] at ho8 | (simp only [Int.reduceToNat] at ho8; rw [← Ny329.out] at ho8)); have n0_ := Sd.mk (Kd.R_lower ho8 (below_size bbl)); have n1_ := bkb BK326 hb; have n2_ := bkb BK327 hb; have n3_ := bkb BK328 hb; have n4_ := bsq w hb; clear BK326; clear BK327; clear BK328; clear HB; have HO331 := n0_; have BK326 := n1_; have BK327 := n2_; have BK328 := n3_; have HB := n4_; clear n0_ n1_ n2_ n3_ n4_; clear hb ho8))
  go_loopg [8, 10] k (fun kq v8 v10 w' => ∃ (x8_1 : Bool) (x10_1 : Int), v8 = .bool x8_1 ∧ v10 = .int .i64 x10_1 ∧ Sd (q8_two.l0 kq a0 x8_1 y329 x10_1 a1_0 a1_1 a2_0 a2_1 = some (r1, r2, r3)) ∧ Sd (kq ≤ k) ∧ Sd (Kd.R Kd.string 9 w' w.heap.size (fun _ => True) v330 y329) ∧ Sd (w'.heap[gb326]? = some (.cells #[.int .i64 a1_0, .int .i64 a1_1] 25 (0, 0))) ∧ Sd (w'.heap[gb327]? = some (.cells #[.int .i64 a2_0, .int .i64 a2_1] 25 (0, 0))) ∧ Sd (w'.heap[gb328]? = some (.cells #[.int .i64 0, .int .i64 0] 25 (0, 0))) ∧ Sd (Below w.heap.size w w'))
  case atStart => exact ⟨(false), (0), ae, ae, H', ⟨Nat.le_refl _⟩, fwR HO331, fwK BK326, fwK BK327, fwK BK328, ⟨bbl⟩⟩
  case round =>
    clear H'
    obtain ⟨x8_1, x10_1, rfl, rfl, HA, HK1, HO_9, BK326, BK327, BK328, HB⟩ := hrel
    cases gk with
    | zero => exact absurd HA.out (by simp [q8_two.l0])
    | succ k1 =>
      have H := HA.out
      clear HA
      simp only [q8_two.l0] at H
      by_cases c9 : x10_1 < (y329.length : Int)
      · rw [if_pos c9] at H
        have c9b0 : decide (x10_1 < (y329.length : Int)) = true := decide_eq_true c9
        clear c9
        by_cases c10 : x8_1 = true
        · subst c10
          replace H := iT H
          have H' := Sd.mk H
          clear H
          obtain ⟨Ao11, co11, eo11⟩ := Kd.R_slice HO_9.out
          subst eo11
          go_wp2
          go_roundg k1
          case measure => have := HK1.out; omega
          case rel => exact ⟨(true), (wrap64 (x10_1 + 1)), ae, ae, H', ⟨by have := HK1.out; omega⟩, fwR HO_9, fwK BK326, fwK BK327, fwK BK328, ⟨bbl⟩⟩
        · replace c10 := Bool.eq_false_iff.mpr c10
          subst c10
          replace H := iF H
          by_cases c12 : 0 ≤ x10_1
          · rw [if_pos c12] at H
            have c12b0 : decide (0 ≤ x10_1) = true := decide_eq_true c12
            clear c12
            have H' := Sd.mk H
            clear H
            obtain ⟨Ao13, co13, eo13⟩ := Kd.R_slice HO_9.out
            subst eo13
            have p332 : 0 ≤ (x10_1 : Int) := ode
            have q332 : x10_1 < (y329.length : Int) := ode
            obtain ⟨ad332, e332, hx332_0⟩ := Kd.at_string (Kd.R_reads' HO_9.out).2.2 x10_1 p332 q332
            cases e332
            replace p332 := eq_true p332
            replace q332 := eq_true q332
            go_wp2
            go_roundg k1
            case measure => have := HK1.out; omega
            case rel => exact ⟨(((rdOf ByteArray.empty y329 x10_1).toList == a0.toList)), (wrap64 (x10_1 + 1)), ae, ae, H', ⟨by have := HK1.out; omega⟩, fwR HO_9, fwK BK326, fwK BK327, fwK BK328, ⟨bbl⟩⟩
          · rw [if_neg c12] at H
            exact absurd H (by simp)
      · rw [if_neg c9] at H
        have c9b0 : decide (x10_1 < (y329.length : Int)) = false := decide_eq_false c9
        clear c9
        by_cases c14 : x8_1 = true
        · subst c14
          replace H := iT H
          have HC15 := Sd.mk H
          clear H
          obtain ⟨Ao16, co16, eo16⟩ := Kd.R_slice HO_9.out
          subst eo16
          go_upto_region 9 with (fail)
          go_cut [38] (fun v38 wc => ∃ (kq : Nat) (x38_14 : Bool), v38 = .bool x38_14 ∧ Sd (q8_two.j1 kq a0 x38_14 a1_0 a1_1 a2_0 a2_1 = some (r1, r2, r3)) ∧ Sd (kq ≤ k1) ∧ Sd (wc.heap[gb326]? = some (.cells #[.int .i64 a1_0, .int .i64 a1_1] 25 (0, 0))) ∧ Sd (wc.heap[gb327]? = some (.cells #[.int .i64 a2_0, .int .i64 a2_1] 25 (0, 0))) ∧ Sd (wc.heap[gb328]? = some (.cells #[.int .i64 0, .int .i64 0] 25 (0, 0))) ∧ Sd (Below w.heap.size w wc))
          case first =>
            have H := HC15.out
            clear HC15
            by_cases c17 : a1_0 = 2
            · rw [if_pos c17] at H
              have c17b0 := beq_iff_eq.mpr c17
              have c17b1 := bne_eq_false_iff_eq.mpr c17
              clear c17
              (first | rw [c17b0] | (simp only [i64_w, i32_w]; rw [c17b0]) | skip)
              have H' := Sd.mk H
              clear H
              have hnb18 := NB326_327.out
              have hnc18 := NB327_326.out
              have hnb19 := NB326_328.out
              have hnc19 := NB328_326.out
              obtain ⟨hcz20_0, hcz20_1, hfz20_0, hfz20_1⟩ := bz BK326
              go_wp2
              go_meet
              case rel => exact ⟨_, (true), ae, H', ⟨by have := HK1.out; first | omega | exact Nat.le_refl _⟩, fwK BK326, fwK BK327, fwK BK328, ⟨bbl⟩⟩
            · rw [if_neg c17] at H
              have c17b0 := beq_eq_false_iff_ne.mpr c17
              have c17b1 := bne_iff_ne.mpr c17
              (first | rw [c17b0] | (simp only [i64_w, i32_w]; rw [c17b0]) | skip)
              have H' := Sd.mk H
              clear H
              have hnb21 := NB326_327.out
              have hnc21 := NB327_326.out
              have hnb22 := NB326_328.out
              have hnc22 := NB328_326.out
              obtain ⟨hcz23_0, hcz23_1, hfz23_0, hfz23_1⟩ := bz BK326
              have hnb24 := NB327_328.out
              have hnc24 := NB328_327.out
              obtain ⟨hcz25_0, hcz25_1, hfz25_0, hfz25_1⟩ := bz BK327
              go_wp2
              go_meet
              case rel => exact ⟨_, ((a2_0 == 2)), ae, H', ⟨by have := HK1.out; first | omega | exact Nat.le_refl _⟩, fwK BK326, fwK BK327, fwK BK328, ⟨bbl⟩⟩
          case rest =>
            clear HC15
            obtain ⟨kq, x38_14, rfl, HA, HJ14, BK326, BK327, BK328, HB⟩ := hcut
            cases kq with
            | zero => exact absurd HA.out (by simp [q8_two.j1])
            | succ kj14 =>
              have H := HA.out
              clear HA
              simp only [q8_two.j1] at H
              by_cases c26 : x38_14 = true
              · subst c26
                replace H := iT H
                obtain ⟨⟨t333, t334⟩, A27, H⟩ := bnd H
                replace H : (some (t333, t334, true)) = some (r1, r2, r3) := H
                simp only [Option.some.injEq, Prod.mk.injEq] at H
                obtain ⟨rfl, rfl, rfl⟩ := H
                go_wp2_with (first | ((with_reducible refine gate_callee (f := 28) rfl ?_); refine goesL_ (some 39) rfl rfl Tryz.func28 (by kernel_rfl) rfl #[] rfl ma ?_; (with_reducible refine (r8_Null.calls  t333 t334 _ A27.out).mono ?_); rintro e w28 ⟨rfl, hb⟩; refine ⟨_, rfl, ?_⟩; replace BK326 := bkb BK326 hb; replace BK327 := bkb BK327 hb; replace BK328 := bkb BK328 hb; replace HB := bsq w hb; (try clear hb); have hnb29 := NB328_326.out; have hnc29 := NB326_328.out; have hnb30 := NB328_327.out; have hnc30 := NB327_328.out; have hcz31_0 := bz0 BK328; have hcz31_1 := bz1 BK328; have hfz31_0 := blk_frozen BK328.out 0; have hfz31_1 := blk_frozen BK328.out 1))
                refine bodyPost_ret (results_ct rfl _ _ gb328 25 #[.int .i64 t333, .int .i64 t334] (0, 0) _ rfl (by (repeat refine dw ?_); refine blk_put (cs := #[.int .i64 t333, .int .i64 0]) ?_ 1 _ rfl; (repeat refine dw ?_); refine blk_put (cs := #[.int .i64 0, .int .i64 0]) ?_ 0 _ rfl; (repeat refine dw ?_); exact BK328.out) Tryz.underlying25 rfl (by kernel_rfl)) rfl ?_
                exact ⟨fe, bbl⟩
              · replace c26 := Bool.eq_false_iff.mpr c26
                subst c26
                replace H := iF H
                have HC32 := Sd.mk H
                clear H
                go_upto_region 11 with (fail)
                go_cut [11] (fun v11 wc => ∃ (kq : Nat) (x11_31 : Bool), v11 = .bool x11_31 ∧ Sd (q8_two.j2 kq a0 x11_31 a1_0 a1_1 a2_0 a2_1 = some (r1, r2, r3)) ∧ Sd (kq ≤ kj14) ∧ Sd (wc.heap[gb326]? = some (.cells #[.int .i64 a1_0, .int .i64 a1_1] 25 (0, 0))) ∧ Sd (wc.heap[gb327]? = some (.cells #[.int .i64 a2_0, .int .i64 a2_1] 25 (0, 0))) ∧ Sd (wc.heap[gb328]? = some (.cells #[.int .i64 0, .int .i64 0] 25 (0, 0))) ∧ Sd (Below w.heap.size w wc))
                case first =>
                  have H := HC32.out
                  clear HC32
                  by_cases c33 : a1_0 = 3
                  · rw [if_pos c33] at H
                    have c33b0 := beq_iff_eq.mpr c33
                    have c33b1 := bne_eq_false_iff_eq.mpr c33
                    clear c33
                    (first | rw [c33b0] | (simp only [i64_w, i32_w]; rw [c33b0]) | skip)
                    have H' := Sd.mk H
                    clear H
                    have hnb34 := NB326_327.out
                    have hnc34 := NB327_326.out
                    have hnb35 := NB326_328.out
                    have hnc35 := NB328_326.out
                    obtain ⟨hcz36_0, hcz36_1, hfz36_0, hfz36_1⟩ := bz BK326
                    go_wp2
                    go_meet
                    case rel => exact ⟨_, (true), ae, H', ⟨by have := HK1.out; have := HJ14.out; first | omega | exact Nat.le_refl _⟩, fwK BK326, fwK BK327, fwK BK328, ⟨bbl⟩⟩
                  · rw [if_neg c33] at H
                    have c33b0 := beq_eq_false_iff_ne.mpr c33
                    have c33b1 := bne_iff_ne.mpr c33
                    (first | rw [c33b0] | (simp only [i64_w, i32_w]; rw [c33b0]) | skip)
                    have H' := Sd.mk H
                    clear H
                    have hnb37 := NB326_327.out
                    have hnc37 := NB327_326.out
                    have hnb38 := NB326_328.out
                    have hnc38 := NB328_326.out
                    obtain ⟨hcz39_0, hcz39_1, hfz39_0, hfz39_1⟩ := bz BK326
                    have hnb40 := NB327_328.out
                    have hnc40 := NB328_327.out
                    obtain ⟨hcz41_0, hcz41_1, hfz41_0, hfz41_1⟩ := bz BK327
                    go_wp2
                    go_meet
                    case rel => exact ⟨_, ((a2_0 == 3)), ae, H', ⟨by have := HK1.out; have := HJ14.out; first | omega | exact Nat.le_refl _⟩, fwK BK326, fwK BK327, fwK BK328, ⟨bbl⟩⟩
                case rest =>
                  clear HC32
                  obtain ⟨kq, x11_31, rfl, HA, HJ31, BK326, BK327, BK328, HB⟩ := hcut
                  cases kq with
                  | zero => exact absurd HA.out (by simp [q8_two.j2])
                  | succ kj31 =>
                    have H := HA.out
                    clear HA
                    simp only [q8_two.j2] at H
                    by_cases c42 : a0.toList = ([38, 38] : List UInt8)
                    · rw [if_pos c42] at H; cases H
                    · rw [if_neg c42] at H
                      have c42b0 : (a0.toList == ([38, 38] : List UInt8)) = false := beq_eq_false_iff_ne.mpr c42
                      have c42b1 : (a0.toList != ([38, 38] : List UInt8)) = true := bne_iff_ne.mpr c42
                      by_cases c64 : a0.toList = ([124, 124] : List UInt8)
                      · rw [if_pos c64] at H; cases H
                      · rw [if_neg c64] at H
                        have c64b0 : (a0.toList == ([124, 124] : List UInt8)) = false := beq_eq_false_iff_ne.mpr c64
                        have c64b1 : (a0.toList != ([124, 124] : List UInt8)) = true := bne_iff_ne.mpr c64
                        by_cases c86 : a0.toList = ([61, 61] : List UInt8)
                        · rw [if_pos c86] at H; cases H
                        · rw [if_neg c86] at H
                          have c86b0 : (a0.toList == ([61, 61] : List UInt8)) = false := beq_eq_false_iff_ne.mpr c86
                          have c86b1 : (a0.toList != ([61, 61] : List UInt8)) = true := bne_iff_ne.mpr c86
                          by_cases c101 : a0.toList = ([33, 61] : List UInt8)
                          · rw [if_pos c101] at H; cases H
                          · rw [if_neg c101] at H
                            have c101b0 : (a0.toList == ([33, 61] : List UInt8)) = false := beq_eq_false_iff_ne.mpr c101
                            have c101b1 : (a0.toList != ([33, 61] : List UInt8)) = true := bne_iff_ne.mpr c101
                            by_cases c116 : a0.toList = ([60] : List UInt8)
                            · rw [if_pos c116] at H; cases H
                            · rw [if_neg c116] at H
                              have c116b0 : (a0.toList == ([60] : List UInt8)) = false := beq_eq_false_iff_ne.mpr c116
                              have c116b1 : (a0.toList != ([60] : List UInt8)) = true := bne_iff_ne.mpr c116
                              by_cases c133 : a0.toList = ([60, 61] : List UInt8)
                              · rw [if_pos c133] at H; cases H
                              · rw [if_neg c133] at H
                                have c133b0 : (a0.toList == ([60, 61] : List UInt8)) = false := beq_eq_false_iff_ne.mpr c133
                                have c133b1 : (a0.toList != ([60, 61] : List UInt8)) = true := bne_iff_ne.mpr c133
                                by_cases c150 : a0.toList = ([62] : List UInt8)
                                · rw [if_pos c150] at H; cases H
                                · rw [if_neg c150] at H
                                  have c150b0 : (a0.toList == ([62] : List UInt8)) = false := beq_eq_false_iff_ne.mpr c150
                                  have c150b1 : (a0.toList != ([62] : List UInt8)) = true := bne_iff_ne.mpr c150
                                  by_cases c167 : a0.toList = ([62, 61] : List UInt8)
                                  · rw [if_pos c167] at H; cases H
                                  · rw [if_neg c167] at H
                                    have c167b0 : (a0.toList == ([62, 61] : List UInt8)) = false := beq_eq_false_iff_ne.mpr c167
                                    have c167b1 : (a0.toList != ([62, 61] : List UInt8)) = true := bne_iff_ne.mpr c167
                                    by_cases c184 : x11_31 = true
                                    · subst c184
                                      replace H := iT H
                                      obtain ⟨⟨t375, t376⟩, A185, H⟩ := bnd H
                                      replace H : (some (t375, t376, true)) = some (r1, r2, r3) := H
                                      simp only [Option.some.injEq, Prod.mk.injEq] at H
                                      obtain ⟨rfl, rfl, rfl⟩ := H
                                      go_wp2_with (first | ((with_reducible refine gate_callee (f := 29) rfl ?_); refine goesL_ (some 129) rfl rfl Tryz.func29 (by kernel_rfl) rfl #[] rfl ma ?_; (with_reducible refine (r8_NaN.calls  t375 t376 _ A185.out).mono ?_); rintro e w186 ⟨rfl, hb⟩; refine ⟨_, rfl, ?_⟩; replace BK326 := bkb BK326 hb; replace BK327 := bkb BK327 hb; replace BK328 := bkb BK328 hb; replace HB := bsq w hb; (try clear hb); have hnb187 := NB328_326.out; have hnc187 := NB326_328.out; have hnb188 := NB328_327.out; have hnc188 := NB327_328.out; have hcz189_0 := bz0 BK328; have hcz189_1 := bz1 BK328; have hfz189_0 := blk_frozen BK328.out 0; have hfz189_1 := blk_frozen BK328.out 1))
                                      refine bodyPost_ret (results_ct rfl _ _ gb328 25 #[.int .i64 t375, .int .i64 t376] (0, 0) _ rfl (by (repeat refine dw ?_); refine blk_put (cs := #[.int .i64 t375, .int .i64 0]) ?_ 1 _ rfl; (repeat refine dw ?_); refine blk_put (cs := #[.int .i64 0, .int .i64 0]) ?_ 0 _ rfl; (repeat refine dw ?_); exact BK328.out) Tryz.underlying25 rfl (by kernel_rfl)) rfl ?_
                                      exact ⟨fe, bbl⟩
                                    · replace c184 := Bool.eq_false_iff.mpr c184
                                      subst c184
                                      replace H := iF H
                                      by_cases c190 : a0.toList = ([43] : List UInt8)
                                      · rw [if_pos c190] at H
                                        have c190b0 : (a0.toList == ([43] : List UInt8)) = true := beq_iff_eq.mpr c190
                                        have c190b1 : (a0.toList != ([43] : List UInt8)) = false := bne_eq_false_iff_eq.mpr c190
                                        clear c190
                                        obtain ⟨⟨t377, t378⟩, A191, H⟩ := bnd H
                                        replace H : (some (t377, t378, true)) = some (r1, r2, r3) := H
                                        simp only [Option.some.injEq, Prod.mk.injEq] at H
                                        obtain ⟨rfl, rfl, rfl⟩ := H
                                        have hnb192 := NB326_327.out
                                        have hnc192 := NB327_326.out
                                        have hnb193 := NB326_328.out
                                        have hnc193 := NB328_326.out
                                        obtain ⟨hcz194_0, hcz194_1, hfz194_0, hfz194_1⟩ := bz BK326
                                        have hnb195 := NB327_328.out
                                        have hnc195 := NB328_327.out
                                        obtain ⟨hcz196_0, hcz196_1, hfz196_0, hfz196_1⟩ := bz BK327
                                        go_wp2_with (first | ((with_reducible refine gate_callee (f := 98) rfl ?_); refine goesL_ (some 135) rfl rfl Tryz.func98 (by kernel_rfl) rfl #[.agg #[.int .i64 a1_0, .int .i64 a1_1], .agg #[.int .i64 a2_0, .int .i64 a2_1]] rfl ma ?_; (with_reducible refine (r8_add.calls kj31 a1_0 a1_1 a2_0 a2_1 t377 t378 _ A191.out).mono ?_); rintro e w197 ⟨rfl, hb⟩; refine ⟨_, rfl, ?_⟩; replace BK326 := bkb BK326 hb; replace BK327 := bkb BK327 hb; replace BK328 := bkb BK328 hb; replace HB := bsq w hb; (try clear hb); have hcz198_0 := bz0 BK328; have hcz198_1 := bz1 BK328; have hfz198_0 := blk_frozen BK328.out 0; have hfz198_1 := blk_frozen BK328.out 1))
                                        refine bodyPost_ret (results_ct rfl _ _ gb328 25 #[.int .i64 t377, .int .i64 t378] (0, 0) _ rfl (by (repeat refine dw ?_); refine blk_put (cs := #[.int .i64 t377, .int .i64 0]) ?_ 1 _ rfl; (repeat refine dw ?_); refine blk_put (cs := #[.int .i64 0, .int .i64 0]) ?_ 0 _ rfl; (repeat refine dw ?_); exact BK328.out) Tryz.underlying25 rfl (by kernel_rfl)) rfl ?_
                                        exact ⟨fe, bbl⟩
                                      · rw [if_neg c190] at H
                                        have c190b0 : (a0.toList == ([43] : List UInt8)) = false := beq_eq_false_iff_ne.mpr c190
                                        have c190b1 : (a0.toList != ([43] : List UInt8)) = true := bne_iff_ne.mpr c190
                                        by_cases c199 : a0.toList = ([45] : List UInt8)
                                        · rw [if_pos c199] at H; cases H
                                        · rw [if_neg c199] at H
                                          have c199b0 : (a0.toList == ([45] : List UInt8)) = false := beq_eq_false_iff_ne.mpr c199
                                          have c199b1 : (a0.toList != ([45] : List UInt8)) = true := bne_iff_ne.mpr c199
                                          by_cases c207 : a0.toList = ([42] : List UInt8)
                                          · rw [if_pos c207] at H; cases H
                                          · rw [if_neg c207] at H
                                            have c207b0 : (a0.toList == ([42] : List UInt8)) = false := beq_eq_false_iff_ne.mpr c207
                                            have c207b1 : (a0.toList != ([42] : List UInt8)) = true := bne_iff_ne.mpr c207
                                            obtain ⟨⟨t385, t386⟩, A216, H⟩ := bnd H
                                            replace H : (some (t385, t386, true)) = some (r1, r2, r3) := H
                                            simp only [Option.some.injEq, Prod.mk.injEq] at H
                                            obtain ⟨rfl, rfl, rfl⟩ := H
                                            have hnb217 := NB326_327.out
                                            have hnc217 := NB327_326.out
                                            have hnb218 := NB326_328.out
                                            have hnc218 := NB328_326.out
                                            obtain ⟨hcz219_0, hcz219_1, hfz219_0, hfz219_1⟩ := bz BK326
                                            have hnb220 := NB327_328.out
                                            have hnc220 := NB328_327.out
                                            obtain ⟨hcz221_0, hcz221_1, hfz221_0, hfz221_1⟩ := bz BK327
                                            go_wp2_with (first | ((with_reducible refine gate_callee (f := 100) rfl ?_); refine goesL_ (some 149) rfl rfl Tryz.func100 (by kernel_rfl) rfl #[.agg #[.int .i64 a1_0, .int .i64 a1_1], .agg #[.int .i64 a2_0, .int .i64 a2_1]] rfl ma ?_; (with_reducible refine (r8_over.calls kj31 a1_0 a1_1 a2_0 a2_1 t385 t386 _ A216.out).mono ?_); rintro e w222 ⟨rfl, hb⟩; refine ⟨_, rfl, ?_⟩; replace BK326 := bkb BK326 hb; replace BK327 := bkb BK327 hb; replace BK328 := bkb BK328 hb; replace HB := bsq w hb; (try clear hb); have hcz223_0 := bz0 BK328; have hcz223_1 := bz1 BK328; have hfz223_0 := blk_frozen BK328.out 0; have hfz223_1 := blk_frozen BK328.out 1))
                                            refine bodyPost_ret (results_ct rfl _ _ gb328 25 #[.int .i64 t385, .int .i64 t386] (0, 0) _ rfl (by (repeat refine dw ?_); refine blk_put (cs := #[.int .i64 t385, .int .i64 0]) ?_ 1 _ rfl; (repeat refine dw ?_); refine blk_put (cs := #[.int .i64 0, .int .i64 0]) ?_ 0 _ rfl; (repeat refine dw ?_); exact BK328.out) Tryz.underlying25 rfl (by kernel_rfl)) rfl ?_
                                            exact ⟨fe, bbl⟩
        · replace c14 := Bool.eq_false_iff.mpr c14
          subst c14
          replace H := iF H
          simp only [Option.some.injEq, Prod.mk.injEq] at H
          obtain ⟨rfl, rfl, rfl⟩ := H
          obtain ⟨Ao224, co224, eo224⟩ := Kd.R_slice HO_9.out
          subst eo224
          have hnb225 := NB328_326.out
          have hnc225 := NB326_328.out
          have hnb226 := NB328_327.out
          have hnc226 := NB327_328.out
          obtain ⟨hcz227_0, hcz227_1, hfz227_0, hfz227_1⟩ := bz BK328
          go_wp2
          refine bodyPost_ret (results_ct rfl _ _ gb328 25 #[.int .i64 0, .int .i64 0] (0, 0) _ rfl (by (repeat refine dw ?_); refine blk_put (cs := #[.int .i64 0, .int .i64 0]) ?_ 1 _ rfl; (repeat refine dw ?_); refine blk_put (cs := #[.int .i64 0, .int .i64 0]) ?_ 0 _ rfl; (repeat refine dw ?_); exact BK328.out) Tryz.underlying25 rfl (by kernel_rfl)) rfl ?_
          exact ⟨fe, bbl⟩
end Go.Proofs.YtcmiehddjgfjaaaGreat.A
