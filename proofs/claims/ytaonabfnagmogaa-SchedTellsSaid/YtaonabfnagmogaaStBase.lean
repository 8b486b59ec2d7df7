/- The worlds that a sort of a row of structs passes through: the row turned, blocks laid behind it, all else as it was (how often was drawn is left open). -/
import Derived.Shelf.SlSortCmp.KitK
namespace Go.Proofs.Ytaonabfnagmogaa.St
open Go.Proofs Go.Shelf Go.RowKit Go.Lib Go.Sort
set_option linter.unusedVariables false
set_option linter.unusedSimpArgs false
variable {P : Program} {α : Type} [Inhabited α] {enc : α → List Value} {k : Nat} {w0 W : World} {blk off : Nat} {dk : Array α}
theorem aside {p : Prop} (h : p) : Aside p := h
/-- W but for how often was drawn. -/
def undrawn (W : World) (n : Nat) : World := { W with drawn := n }
/-- W is a world of the sort's, but for how often was drawn. -/
def SB (enc : α → List Value) (k : Nat) (w0 : World) (blk off : Nat) (dk : Array α) (W : World) : Prop := ∃ n, SWK enc k w0 blk off dk (undrawn W n)
theorem SB.start (h : HoldsK enc k w0 blk off dk) : SB enc k w0 blk off dk w0 := ⟨w0.drawn, SWK.start h⟩
theorem SB.drewN (h : SB enc k w0 blk off dk W) (q : Nat) : SB enc k w0 blk off dk (W.drewN q) := by
  obtain ⟨n, h⟩ := h
  exact ⟨n, h⟩
theorem SB.drew (h : SB enc k w0 blk off dk W) : SB enc k w0 blk off dk W.drew := h.drewN 1
theorem grow_of_below {w w' : World} (h : Below w.heap.size w w') (n : Nat) : undrawn w' n = grow (undrawn w n) (w'.heap.extract w.heap.size w'.heap.size) := by
  have e : w'.heap = w.heap ++ w'.heap.extract w.heap.size w'.heap.size := by
    apply Array.ext_getElem?
    intro i
    by_cases hi : i < w.heap.size
    · rw [h.block i hi, Array.getElem?_append_left hi]
    · rw [Array.getElem?_append_right (by omega), Array.getElem?_extract]
      by_cases h2 : i < w'.heap.size
      · rw [if_pos (by omega)]; congr 1; omega
      · rw [if_neg (by omega), Array.getElem?_eq_none (by omega)]
  have h1 := h.os; have h2 := h.tape; have h3 := h.output
  unfold undrawn grow
  cases w; cases w'
  simp only at h1 h2 h3 e ⊢
  subst h1; subst h2; subst h3
  rw [← e]
theorem SB.below {w' : World} (h : SB enc k w0 blk off dk W) (hb : Below W.heap.size W w') : SB enc k w0 blk off dk w' := by
  obtain ⟨n, m, os, h⟩ := h
  refine ⟨n, m, os ++ w'.heap.extract W.heap.size w'.heap.size, ?_⟩
  rw [grow_of_below hb n, h]
  unfold sortWorldK
  rw [grow_grow]
theorem undrawn_setCells (b n : Nat) : ∀ (vs : List Value) (o : Nat) (W : World), undrawn (W.setCells b o vs) n = (undrawn W n).setCells b o vs
  | [], o, W => rfl
  | v :: vs, o, W => by rw [World.setCells, World.setCells, undrawn_setCells b n vs]; rfl
variable {d0 : Array α}
theorem SB.holds (h : SB enc k w0 blk off dk W) (R : RowK enc k w0 blk off d0) (hs : dk.size = d0.size) : HoldsK enc k W blk off dk := by
  obtain ⟨n, h⟩ := h
  exact h.holds R.hblk R.hH hs
theorem SB.load (h : SB enc k w0 blk off dk W) (R : RowK enc k w0 blk off d0) (hs : dk.size = d0.size) (P : Program) (i : Nat) (hi : i < dk.size) :
    Sem.run P (loadCellsFrom ⟨blk, off + i * k, none⟩ 0 k #[]) W = .ok (enc dk[i]!).toArray W :=
  run_loadCellsFrom_list P _ _ _ k (R.hk _) (HoldsK.cells (h.holds R hs) R.hk hi)
theorem SB.ld1 (h : SB enc k w0 blk off dk W) (R : RowK enc k w0 blk off d0) (hs : dk.size = d0.size) (P : Program) (i : Nat) (hi : i < dk.size) :
    Sem.run P (loadCellsFrom ⟨blk, off + i * k, none⟩ 0 k #[]) W.drew = .ok (enc dk[i]!).toArray W.drew := h.drew.load R hs P i hi
theorem SB.st1 (h : SB enc k w0 blk off dk W) (R : RowK enc k w0 blk off d0) (hs : dk.size = d0.size) (P : Program) (i : Nat) (hi : i < dk.size) (y : α) :
    Sem.run P (storeCells ⟨blk, off + i * k, none⟩ (enc y) 0) W.drew = .ok () (W.drew.setCells blk (off + i * k) (enc y)) :=
  stores_of_holds P (h.drew.holds R hs) (i * k) _ (by rw [R.hk, size_flatK]; exact rowK_bnd dk k i hi) (R.h1 _)
theorem SB.st2 (h : SB enc k w0 blk off dk W) (R : RowK enc k w0 blk off d0) (hs : dk.size = d0.size) (P : Program) (i j : Nat) (hi : i < dk.size) (hj : j < dk.size) (y x : α) :
    Sem.run P (storeCells ⟨blk, off + j * k, none⟩ (enc x) 0) (W.drew.setCells blk (off + i * k) (enc y)) = .ok () ((W.drew.setCells blk (off + i * k) (enc y)).setCells blk (off + j * k) (enc x)) :=
  stores_of_holds P (holds_setCells_c (h.drew.holds R hs) (i * k) _ (by rw [R.hk, size_flatK]; exact rowK_bnd dk k i hi)) (j * k) _ (by rw [R.hk, size_setMany, size_flatK]; exact rowK_bnd dk k j hj) (R.h1 _)
theorem SB.swapped (h : SB enc k w0 blk off dk W) (R : RowK enc k w0 blk off d0) (i j : Nat) (hi : i < dk.size) (hj : j < dk.size) :
    SB enc k w0 blk off (swp dk i j) ((W.drew.setCells blk (off + i * k) (enc dk[j]!)).setCells blk (off + j * k) (enc dk[i]!)) := by
  obtain ⟨n, h⟩ := h
  refine ⟨n, ?_⟩
  rw [undrawn_setCells, undrawn_setCells]
  exact h.swap R.hk R.hblk i j hi hj
/-- A world of the class, under one name (for the class of worlds of a region that only reads and calls). -/
structure SBW (enc : α → List Value) (k : Nat) (w0 : World) (blk off : Nat) (dk : Array α) where
  w : World
  h : SB enc k w0 blk off dk w
/-- What the sort is told of 'cmp'. -/
def CmpB (P : Program) (g : Nat) (cb : Array Value) (enc : α → List Value) (k : Nat) (cf : α → α → Int) (blk off size : Nat) (w0 : World) : Prop :=
  ∀ (dk : Array α) (W : World), dk.size = size → SB enc k w0 blk off dk W → ∀ x y : α,
    Calls P g (#[.agg (enc x).toArray, .agg (enc y).toArray] ++ cb) W fun e w' => e = .returned (.int .i64 (cf x y)) ∧ Below W.heap.size W w'
/-- The test's call, met in a world of the class. -/
theorem CmpB.at {g : Nat} {cb : Array Value} {cf : α → α → Int} {size : Nat} (hC : CmpB P g cb enc k cf blk off size w0) (p : SBW enc k w0 blk off dk) (hs : dk.size = size) (x y : α) :
    Calls P g (#[.agg (enc x).toArray, .agg (enc y).toArray] ++ cb) p.w fun e w' => e = .returned (.int .i64 (cf x y)) ∧ ∃ q : SBW enc k w0 blk off dk, w' = q.w :=
  (hC dk p.w hs p.h x y).mono fun _ _ ⟨he, hb⟩ => ⟨he, ⟨_, p.h.below hb⟩, rfl⟩
/-- A region whose operations only read, and whose callees lay blocks at most: one walk, in the order of the text, in whatever world of the class. -/
theorem wp_region_sb {id : Nat} {Q : Exit → Act → World → Prop} {a : Act} {w : World} {l : List Oper} (hS : SB enc k w0 blk off dk w) (hm : P.follows .mixedOrders = true) (hB : Region.lexB .any l.toArray = true)
    (h : wpQuiet P l.toArray (fun w' => ∃ p : SBW enc k w0 blk off dk, w' = p.w) (fun a' => ∀ w', (∃ p : SBW enc k w0 blk off dk, w' = p.w) → Q .normal a' w') l a) : (Code.region id l.toArray true).wp P Q a w :=
  wp_region_quiet (C := fun w' => ∃ p : SBW enc k w0 blk off dk, w' = p.w) hm hB ⟨⟨_, hS.drew⟩, rfl⟩ (by simpa using h)
/-- A world in which nothing that was has turned. -/
structure BW (w0 : World) where
  w : World
  h : Below w0.heap.size w0 w
theorem wp_region_bw {P : Program} {id : Nat} {Q : Exit → Act → World → Prop} {a : Act} {w0 w : World} {l : List Oper} (hS : Below w0.heap.size w0 w) (hm : P.follows .mixedOrders = true) (hB : Region.lexB .any l.toArray = true)
    (h : wpQuiet P l.toArray (fun w' => ∃ p : BW w0, w' = p.w) (fun a' => ∀ w', (∃ p : BW w0, w' = p.w) → Q .normal a' w') l a) : (Code.region id l.toArray true).wp P Q a w :=
  wp_region_quiet (C := fun w' => ∃ p : BW w0, w' = p.w) hm hB ⟨⟨_, hS.drew⟩, rfl⟩ (by simpa using h)
theorem BW.at {P : Program} {f : Nat} {args : Array Value} {v : Value} {w0 : World} (p : BW w0) (h : Calls P f args p.w fun e w' => e = .returned v ∧ Below p.w.heap.size p.w w') : Calls P f args p.w fun e w' => e = .returned v ∧ ∃ q : BW w0, w' = q.w :=
  h.mono fun _ _ ⟨he, hb⟩ => ⟨he, ⟨_, p.h.trans (hb.mono p.h.size)⟩, rfl⟩
theorem BW.cell {w0 : World} (p : BW w0) {a : Addr} {v : Value} (h : w0.cell? a = some v) : p.w.cell? a = some v := (p.h.cell (World.block_lt_of_cell? w0 _ h)).trans h
end Go.Proofs.Ytaonabfnagmogaa.St
