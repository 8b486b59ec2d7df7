/- A part of the proof of LawValueSigns: contracts and plain laws, put together by a program of this session. -/
import Derived.Test.YtcmiehddjgfjaaaGreatDoorCSig2
import Derived.Maps.OwnOps
import Derived.Laws.EntriesVeiled
import Derived.Shelf.Abstract
import Derived.Outline
import Derived.Shelf.SlicesE.Index
import Derived.Carry
import Derived.Deep.QuietTactic
import Derived.Deep.RegionHeld3
import Derived.Deep.Cut
namespace Go.Proofs.YtcmiehddjgfjaaaGreatDoor.V
open Go.RowKit Go.Proofs.YtcmiehddjgfjaaaGreatDoorW.PrintWords Go.Proofs.YtcmiehddjgfjaaaGreatDoorW.PrintLast Go.Proofs.YtcmiehddjgfjaaaGreatDoorW.PrintMore
set_option linter.unusedVariables false
set_option linter.unusedSimpArgs false
/-- The entries, in the order in which they were laid. -/
def ents : List (ByteArray × Value) → Nat → List MapEntry
  | [], _ => []
  | (s, v) :: l, n => { key := .string s, val := v, born := n } :: ents l (n + 1)
theorem ents_snoc (s : ByteArray) (v : Value) : ∀ (l : List (ByteArray × Value)) (n : Nat), ents (l ++ [(s, v)]) n = ents l n ++ [{ key := .string s, val := v, born := n + l.length }]
  | [], n => rfl
  | (t, u) :: l, n => by
    rw [List.cons_append, ents, ents, ents_snoc s v l (n + 1), List.cons_append, List.length_cons]
    congr 4; omega
theorem find_some (op : ByteArray) : ∀ (l : List (ByteArray × Value)) (n i : Nat), ∃ j, Instr.findNow .string (.string op) (ents l n) i = some ((l.lookup op).map fun v => (j, v))
  | [], n, i => ⟨0, rfl⟩
  | (s, v) :: l, n, i => by
    rw [ents, List.lookup_cons]
    unfold Instr.findNow
    simp only [Instr.sameNow]
    cases h : op == s with
    | true => exact ⟨i, rfl⟩
    | false => exact find_some op l (n + 1) (i + 1)
/-- Block r is the map of these entries. -/
def HM (w : World) (r : Nat) (l : List (ByteArray × Value)) : Prop := w.heap[r]? = some (.map (ents l 0).toArray l.length)
theorem HM.below {w w' : World} {r : Nat} {l : List (ByteArray × Value)} (h : HM w r l) (hb : Below w.heap.size w w') : HM w' r l :=
  (hb.block r (Array.getElem?_eq_some_iff.1 h).1).trans h
section
variable {P : Program} {w : World} {r : Nat} {l : List (ByteArray × Value)} {T ks el : TypeId}
theorem run_find (ht : P.underlying T = some (.map ks el)) (hs : P.underlying ks = some .string) (h : HM w r l) (s : ByteArray) (z : Value) (hz : (zeroValue el).run P w = .ok z w) :
    (Instr.lookup T (.map (some r)) (.string s) true).run P w = .ok (match l.lookup s with | some v => .tuple #[v, .bool true] | none => .tuple #[z, .bool false]) w := by
  obtain ⟨j, hf⟩ := find_some s l 0 0
  have hget : w.heap[r]? = some (.map (ents l 0).toArray l.length) := h
  have hfk : (Instr.findKey ks (.string s) (ents l 0)).run P w = .ok ((l.lookup s).map fun v => (j, v)) w := MapKept.run_findKey hs hf
  have hck : ∀ b, (Instr.checkKey b 10000 ks (.string s)).run P w = .ok () w := fun b => MapKept.run_checkKey hs (by simp [MapKept.IsKey]) b 9999
  cases hl : l.lookup s with
  | none =>
    rw [hl] at hfk
    simp [Instr.lookup, run_underlying ht, hck, MapKept.run_getObj_map hget, hfk, hz]
  | some v =>
    rw [hl] at hfk
    simp [Instr.lookup, run_underlying ht, hck, MapKept.run_getObj_map hget, hfk]
end
end Go.Proofs.YtcmiehddjgfjaaaGreatDoor.V
namespace Go.Proofs.YtcmiehddjgfjaaaGreatDoor.A
open Go.RowKit Go.Proofs.YtcmiehddjgfjaaaGreatDoorW.PrintWords Go.Proofs.YtcmiehddjgfjaaaGreatDoorW.PrintLast Go.Proofs.YtcmiehddjgfjaaaGreatDoorW.PrintMore Go.Proofs.YtcmiehddjgfjaaaGreatDoor.V
set_option linter.unusedVariables false
set_option linter.unusedSimpArgs false
abbrev vv (a : V) : Value := .agg #[.int .i64 a.1, .int .i64 a.2]
theorem blk_new2' (w : World) (o o' : Obj) : ((w.alloc o).alloc o').heap[w.heap.size + 1]? = some o' := by
  have := blk_new (w.alloc o) o'
  simpa using this
theorem fz_below {w w1 : World} (h : Below w.heap.size w w1) {a : Addr} {v : Value} (hc : w.cell? a = some v) (hf : w.frozen? a = false) : w1.frozen? a = false := (h.frozen (World.block_lt_of_cell? w a hc)).trans hf
def vPlain (F : Int → Int) (a : V) : V := if a.1 = 2 then a else if a.1 = 3 then a else vNum (F (vRank a))
/-- A function of a whole number. -/
def IsI (g : Nat) (F : Int → Int) : Prop := (∀ args w, (callFunc g args).run Tryz.prog w = .ok (.enter g args) w) ∧ ∀ w1 n, -1000000000000001 ≤ n → n ≤ 1000000000000001 → Calls Tryz.prog g #[.int .i64 n] w1 fun e w' => e = .returned (.int .i64 (F n)) ∧ Below w1.heap.size w1 w'
set_option maxHeartbeats 4000000 in
set_option maxRecDepth 100000 in
theorem plain1_calls (g : Nat) (F : Int → Int) (hI : IsI g F) (b : Nat) (a : V) (w : World) (hv : isV a) (hc : w.cell? ⟨b, 0, none⟩ = some (.func (.func g) #[] #[])) :
    Calls Tryz.prog 97 #[vv a, .pointer (some ⟨b, 0, none⟩)] w fun e w' => e = .returned (vv (vPlain F a)) ∧ Below w.heap.size w w' := by
  obtain ⟨eg, hf⟩ := hI
  have hlt : b < w.heap.size := World.block_lt_of_cell? w _ hc
  have hr := isV_rank hv
  obtain ⟨ak, an⟩ := a
  have HR := Aside0.mk (rank_is (ak, an))
  have HF := Aside0.mk hf
  have HRR := Aside0.mk hr
  clear hf hr
  by_cases h2 : ak = 2
  · have e : vPlain F (ak, an) = (ak, an) := if_pos h2
    rw [e]
    have c1 : (ak == 2) = true := beq_iff_eq.2 h2
    clear h2 e HR HRR hv
    go_enter Tryz.func97, Tryz.ntmps97
    go_wp2
    refine bodyPost_ret (v := vv (ak, an)) (by simp [results, Tryz.results97, go_sem]) rfl ⟨rfl, ?_⟩
    repeat (first | exact Below.refl _ _ | (refine Below.alloc ?_ (by simp) _) | (refine Below.setCell ?_ (by simp) _))
  · have c1 : (ak == 2) = false := beq_eq_false_iff_ne.2 h2
    by_cases h3 : ak = 3
    · have e : vPlain F (ak, an) = (ak, an) := by unfold vPlain; rw [if_neg h2, if_pos h3]
      rw [e]
      have c2 : (ak == 3) = true := beq_iff_eq.2 h3
      clear h2 h3 e HR HRR hv
      go_enter Tryz.func97, Tryz.ntmps97
      go_wp2
      refine bodyPost_ret (v := vv (ak, an)) (by simp [results, Tryz.results97, go_sem]) rfl ⟨rfl, ?_⟩
      repeat (first | exact Below.refl _ _ | (refine Below.alloc ?_ (by simp) _) | (refine Below.setCell ?_ (by simp) _))
    · have e : vPlain F (ak, an) = vNum (F (vRank (ak, an))) := by unfold vPlain; rw [if_neg h2, if_neg h3]
      rw [e]
      obtain ⟨r1, r2, hrr⟩ : ∃ r1 r2, vNum (F (vRank (ak, an))) = (r1, r2) := ⟨_, _, rfl⟩
      have HBK := Aside0.mk ((back_is (F (vRank (ak, an)))).trans (congrArg some hrr))
      rw [hrr]
      clear hrr
      obtain ⟨q, hq⟩ : ∃ q, vRank (ak, an) = q := ⟨_, rfl⟩
      rw [hq] at HR HRR HBK
      clear hq
      obtain ⟨fq, hfq⟩ : ∃ fq, F q = fq := ⟨_, rfl⟩
      have HFQ := Aside0.mk (fun w1 (h0 : -1000000000000001 ≤ q) (h1 : q ≤ 1000000000000001) => HF.out w1 q h0 h1)
      rw [hfq] at HBK HFQ
      clear hfq
      have c2 : (ak == 3) = false := beq_eq_false_iff_ne.2 h3
      clear h2 h3 e hv
      go_enter Tryz.func97, Tryz.ntmps97
      go_wp2_with fail
      have hb0 : Below w.heap.size w ((w.alloc (.cells #[.int .i64 ak, .int .i64 an] 25)).alloc (.cells #[.int .i64 0, .int .i64 0] 25)) := ((Below.refl _ _).alloc (Nat.le_refl _) _).alloc (by simp) _
      have s0 : ((w.alloc (.cells #[.int .i64 ak, .int .i64 an] 25)).alloc (.cells #[.int .i64 0, .int .i64 0] 25)).heap.size = w.heap.size + 2 := by simp
      have cb : ((w.alloc (.cells #[.int .i64 ak, .int .i64 an] 25)).alloc (.cells #[.int .i64 0, .int .i64 0] 25)).cell? ⟨b, 0, none⟩ = some (.func (.func g) #[] #[]) := (hb0.cell hlt).trans hc
      have k0 : ((w.alloc (.cells #[.int .i64 ak, .int .i64 an] 25)).alloc (.cells #[.int .i64 0, .int .i64 0] 25)).cell? ⟨w.heap.size, 0, none⟩ = some (.int .i64 ak) := by simp
      have k1 : ((w.alloc (.cells #[.int .i64 ak, .int .i64 an] 25)).alloc (.cells #[.int .i64 0, .int .i64 0] 25)).cell? ⟨w.heap.size, 1, none⟩ = some (.int .i64 an) := by simp
      have r0 : ((w.alloc (.cells #[.int .i64 ak, .int .i64 an] 25)).alloc (.cells #[.int .i64 0, .int .i64 0] 25)).heap[w.heap.size + 1]? = some (.cells #[.int .i64 0, .int .i64 0] 25 (0, 0)) := blk_new2' _ _ _
      have m0 := cell_of_row _ _ 0 _ _ _ r0
      have m1 := cell_of_row _ _ 1 _ _ _ r0
      have z0 := blk_frozen r0 0
      have z1 := blk_frozen r0 1
      simp only [List.getElem?_toArray, List.getElem?_cons_zero, List.getElem?_cons_succ] at m0 m1
      have HB0 := Aside0.mk hb0
      have RB := Aside0.mk r0
      have SZ := Aside0.mk s0
      generalize (w.alloc (.cells #[.int .i64 ak, .int .i64 an] 25)).alloc (.cells #[.int .i64 0, .int .i64 0] 25) = W2 at HB0 RB SZ cb k0 k1 m0 m1 z0 z1 ⊢
      clear hb0 r0 s0 hc
      have n0 : q ≤ 1000000000000001 := HRR.out.2
      have n1 : -1000000000000001 ≤ q := HRR.out.1
      go_region_with (first
          | (go_at_call 63; refine (value_rank.calls ak an q _ HR.out).mono ?_; rintro e w1 ⟨rfl, hb1⟩; have m0_ := m0; have m1_ := m1; have cb := pw_cell_below hb1 cb; have k0 := pw_cell_below hb1 k0; have k1 := pw_cell_below hb1 k1; have m0 := pw_cell_below hb1 m0_; have m1 := pw_cell_below hb1 m1_; have z0 := fz_below hb1 m0_ z0; have z1 := fz_below hb1 m1_ z1; clear m0_ m1_; have HB1 := Aside0.mk (HB0.out.trans ((Below.refl W2.heap.size W2).drew.trans hb1 |>.mono HB0.out.size)); clear hb1)
          | (go_at_fn g; refine (HFQ.out _ n1 n0).mono ?_; rintro e w2 ⟨rfl, hb2⟩; have m0_ := m0; have m1_ := m1; have cb := pw_cell_below hb2 cb; have k0 := pw_cell_below hb2 k0; have k1 := pw_cell_below hb2 k1; have m0 := pw_cell_below hb2 m0_; have m1 := pw_cell_below hb2 m1_; have z0 := fz_below hb2 m0_ z0; have z1 := fz_below hb2 m1_ z1; clear m0_ m1_; have HB2 := Aside0.mk (HB1.out.trans (hb2.mono HB1.out.size)); clear hb2)
          | (go_at_call 62; refine (value_back.calls fq r1 r2 _ HBK.out).mono ?_; rintro e w3 ⟨rfl, hb3⟩; have m0_ := m0; have m1_ := m1; have cb := pw_cell_below hb3 cb; have k0 := pw_cell_below hb3 k0; have k1 := pw_cell_below hb3 k1; have m0 := pw_cell_below hb3 m0_; have m1 := pw_cell_below hb3 m1_; have z0 := fz_below hb3 m0_ z0; have z1 := fz_below hb3 m1_ z1; clear m0_ m1_; have HB3 := Aside0.mk (HB2.out.trans (hb3.mono HB2.out.size)); clear hb3))
      all_goals
        go_wp2_with fail
        exact bodyPost_ret (v := vv (r1, r2)) (by simp [results, Tryz.results97, go_sem, m0, m1]) rfl ⟨rfl, (HB3.out.setCell (by simp) _).setCell (by simp) _⟩
end Go.Proofs.YtcmiehddjgfjaaaGreatDoor.A
namespace Go.Proofs.YtcmiehddjgfjaaaGreatDoor.A
open Go.RowKit Go.Proofs.YtcmiehddjgfjaaaGreatDoorW.PrintWords Go.Proofs.YtcmiehddjgfjaaaGreatDoorW.PrintLast Go.Proofs.YtcmiehddjgfjaaaGreatDoorW.PrintMore Go.Proofs.YtcmiehddjgfjaaaGreatDoor.V
set_option linter.unusedVariables false
set_option linter.unusedSimpArgs false
theorem blk_new3' (w : World) (o o' o'' : Obj) : (((w.alloc o).alloc o').alloc o'').heap[w.heap.size + 2]? = some o'' := by
  have := blk_new ((w.alloc o).alloc o') o''
  simpa using this
theorem below_one (w : World) (o : Obj) : Below w.heap.size w (w.alloc o) := (Below.refl _ _).alloc (Nat.le_refl _) _
theorem below_two (w : World) (o o' : Obj) : Below w.heap.size w ((w.alloc o).alloc o') := (below_one w o).alloc (by simp) _
theorem cell_new0 (w : World) (a b : Value) (t : TypeId) : (w.alloc (.cells #[a, b] t)).cell? ⟨w.heap.size, 0, none⟩ = some a := by simp
theorem cell_new1 (w : World) (a b : Value) (t : TypeId) : (w.alloc (.cells #[a, b] t)).cell? ⟨w.heap.size, 1, none⟩ = some b := by simp
/-- A function of two values. -/
def IsP (g : Nat) (F : V → V → V) : Prop := (∀ args w, (callFunc g args).run Tryz.prog w = .ok (.enter g args) w) ∧ ∀ w1 a b, isV a → isV b → Calls Tryz.prog g #[vv a, vv b] w1 fun e w' => e = .returned (vv (F a b)) ∧ Below w1.heap.size w1 w'
def vNumbers (F : V → V → V) (a b : V) : V := if a.1 = 3 ∨ b.1 = 3 then (3, 0) else F a b
set_option maxHeartbeats 4000000 in
set_option maxRecDepth 100000 in
theorem numbers1_calls (g : Nat) (F : V → V → V) (hI : IsP g F) (b : Nat) (x y : V) (w : World) (hx : isV x) (hy : isV y) (hc : w.cell? ⟨b, 0, none⟩ = some (.func (.func g) #[] #[])) :
    Calls Tryz.prog 100 #[vv x, vv y, .pointer (some ⟨b, 0, none⟩)] w fun e w' => e = .returned (vv (vNumbers F x y)) ∧ Below w.heap.size w w' := by
  obtain ⟨eg, hf⟩ := hI
  have hlt : b < w.heap.size := World.block_lt_of_cell? w _ hc
  have HF := Aside0.mk (fun w1 => hf w1 x y hx hy)
  clear hf hx hy
  obtain ⟨r1, r2, hrr⟩ : ∃ r1 r2, F x y = (r1, r2) := ⟨_, _, rfl⟩
  rw [hrr] at HF
  have e : vNumbers F x y = if x.1 = 3 ∨ y.1 = 3 then (3, 0) else (r1, r2) := by unfold vNumbers; rw [hrr]
  rw [e]
  clear e hrr
  obtain ⟨xk, xn⟩ := x
  obtain ⟨yk, yn⟩ := y
  have hb0 : Below w.heap.size w (((w.alloc (.cells #[.int .i64 xk, .int .i64 xn] 25)).alloc (.cells #[.int .i64 yk, .int .i64 yn] 25)).alloc (.cells #[.int .i64 0, .int .i64 0] 25)) := (((Below.refl _ _).alloc (Nat.le_refl _) _).alloc (by simp) _).alloc (by simp; omega) _
  have cb : (((w.alloc (.cells #[.int .i64 xk, .int .i64 xn] 25)).alloc (.cells #[.int .i64 yk, .int .i64 yn] 25)).alloc (.cells #[.int .i64 0, .int .i64 0] 25)).cell? ⟨b, 0, none⟩ = some (.func (.func g) #[] #[]) := (hb0.cell hlt).trans hc
  have k0 : (((w.alloc (.cells #[.int .i64 xk, .int .i64 xn] 25)).alloc (.cells #[.int .i64 yk, .int .i64 yn] 25)).alloc (.cells #[.int .i64 0, .int .i64 0] 25)).cell? ⟨w.heap.size, 0, none⟩ = some (.int .i64 xk) := pw_cell_below (below_two (w.alloc _) _ _) (cell_new0 w _ _ _)
  have k1 : (((w.alloc (.cells #[.int .i64 xk, .int .i64 xn] 25)).alloc (.cells #[.int .i64 yk, .int .i64 yn] 25)).alloc (.cells #[.int .i64 0, .int .i64 0] 25)).cell? ⟨w.heap.size, 1, none⟩ = some (.int .i64 xn) := pw_cell_below (below_two (w.alloc _) _ _) (cell_new1 w _ _ _)
  have l0 : (((w.alloc (.cells #[.int .i64 xk, .int .i64 xn] 25)).alloc (.cells #[.int .i64 yk, .int .i64 yn] 25)).alloc (.cells #[.int .i64 0, .int .i64 0] 25)).cell? ⟨w.heap.size + 1, 0, none⟩ = some (.int .i64 yk) := pw_cell_below (below_one ((w.alloc _).alloc _) _) (by simp)
  have l1 : (((w.alloc (.cells #[.int .i64 xk, .int .i64 xn] 25)).alloc (.cells #[.int .i64 yk, .int .i64 yn] 25)).alloc (.cells #[.int .i64 0, .int .i64 0] 25)).cell? ⟨w.heap.size + 1, 1, none⟩ = some (.int .i64 yn) := pw_cell_below (below_one ((w.alloc _).alloc _) _) (by simp)
  have r0 : (((w.alloc (.cells #[.int .i64 xk, .int .i64 xn] 25)).alloc (.cells #[.int .i64 yk, .int .i64 yn] 25)).alloc (.cells #[.int .i64 0, .int .i64 0] 25)).heap[w.heap.size + 2]? = some (.cells #[.int .i64 0, .int .i64 0] 25 (0, 0)) := blk_new3' _ _ _ _
  have m0 := cell_of_row _ _ 0 _ _ _ r0
  have m1 := cell_of_row _ _ 1 _ _ _ r0
  have z0 := blk_frozen r0 0
  have z1 := blk_frozen r0 1
  simp only [List.getElem?_toArray, List.getElem?_cons_zero, List.getElem?_cons_succ] at m0 m1
  have HB0 := Aside0.mk hb0
  by_cases h1 : xk = 3
  · subst h1
    rw [if_pos (Or.inl rfl)]
    clear HF eg hc r0
    go_enter Tryz.func100, Tryz.ntmps100
    go_wp2_with fail
    generalize ((w.alloc (.cells #[.int .i64 3, .int .i64 xn] 25)).alloc (.cells #[.int .i64 yk, .int .i64 yn] 25)).alloc (.cells #[.int .i64 0, .int .i64 0] 25) = W2 at HB0 cb k0 k1 l0 l1 m0 m1 z0 z1 ⊢
    clear hb0
    go_wp2_with (go_at_call 25; refine (value_NaN.calls 3 0 _ (by rfl)).mono ?_; rintro e w1 ⟨rfl, hb1⟩; have m0_ := m0; have m1_ := m1; have m0 := pw_cell_below hb1 m0_; have m1 := pw_cell_below hb1 m1_; have z0 := fz_below hb1 m0_ z0; have z1 := fz_below hb1 m1_ z1; clear m0_ m1_; have HB1 := Aside0.mk (HB0.out.trans (hb1.mono HB0.out.size)); clear hb1)
    exact bodyPost_ret (v := vv (3, 0)) (by simp [results, Tryz.results100, go_sem, m0, m1]) rfl ⟨rfl, (HB1.out.setCell (by simp; omega) _).setCell (by simp; omega) _⟩
  · have c1 : (xk == 3) = false := beq_eq_false_iff_ne.2 h1
    by_cases h2 : yk = 3
    · subst h2
      rw [if_pos (Or.inr rfl)]
      clear h1
      clear HF eg hc r0
      go_enter Tryz.func100, Tryz.ntmps100
      go_wp2_with fail
      generalize ((w.alloc (.cells #[.int .i64 xk, .int .i64 xn] 25)).alloc (.cells #[.int .i64 3, .int .i64 yn] 25)).alloc (.cells #[.int .i64 0, .int .i64 0] 25) = W2 at HB0 cb k0 k1 l0 l1 m0 m1 z0 z1 ⊢
      clear hb0
      go_wp2_with (go_at_call 25; refine (value_NaN.calls 3 0 _ (by rfl)).mono ?_; rintro e w1 ⟨rfl, hb1⟩; have m0_ := m0; have m1_ := m1; have m0 := pw_cell_below hb1 m0_; have m1 := pw_cell_below hb1 m1_; have z0 := fz_below hb1 m0_ z0; have z1 := fz_below hb1 m1_ z1; clear m0_ m1_; have HB1 := Aside0.mk (HB0.out.trans (hb1.mono HB0.out.size)); clear hb1)
      exact bodyPost_ret (v := vv (3, 0)) (by simp [results, Tryz.results100, go_sem, m0, m1]) rfl ⟨rfl, (HB1.out.setCell (by simp; omega) _).setCell (by simp; omega) _⟩
    · have c2 : (yk == 3) = false := beq_eq_false_iff_ne.2 h2
      rw [if_neg (fun h => h.elim h1 h2)]
      clear h1 h2 hc r0
      go_enter Tryz.func100, Tryz.ntmps100
      go_wp2_with fail
      generalize ((w.alloc (.cells #[.int .i64 xk, .int .i64 xn] 25)).alloc (.cells #[.int .i64 yk, .int .i64 yn] 25)).alloc (.cells #[.int .i64 0, .int .i64 0] 25) = W2 at HB0 cb k0 k1 l0 l1 m0 m1 z0 z1 ⊢
      clear hb0
      go_wp2_with (go_at_fn g; refine (HF.out _).mono ?_; rintro e w1 ⟨rfl, hb1⟩; have m0_ := m0; have m1_ := m1; have m0 := pw_cell_below hb1 m0_; have m1 := pw_cell_below hb1 m1_; have z0 := fz_below hb1 m0_ z0; have z1 := fz_below hb1 m1_ z1; clear m0_ m1_; have HB1 := Aside0.mk (HB0.out.trans (hb1.mono HB0.out.size)); clear hb1)
      exact bodyPost_ret (v := vv (r1, r2)) (by simp [results, Tryz.results100, go_sem, m0, m1]) rfl ⟨rfl, (HB1.out.setCell (by simp; omega) _).setCell (by simp; omega) _⟩
end Go.Proofs.YtcmiehddjgfjaaaGreatDoor.A
namespace Go.Proofs.YtcmiehddjgfjaaaGreatDoor.A
open Go.RowKit Go.Proofs.YtcmiehddjgfjaaaGreatDoorW.PrintWords Go.Proofs.YtcmiehddjgfjaaaGreatDoorW.PrintLast Go.Proofs.YtcmiehddjgfjaaaGreatDoorW.PrintMore Go.Proofs.YtcmiehddjgfjaaaGreatDoor.V
set_option linter.unusedVariables false
set_option linter.unusedSimpArgs false
theorem rank_calls (k n : Int) (w : World) : Calls Tryz.prog 63 #[.agg #[.int .i64 k, .int .i64 n]] w fun e w' => e = .returned (.int .i64 (vRank (k, n))) ∧ Below w.heap.size w w' := value_rank.calls k n _ w (rank_is (k, n))
/-- A test of two whole numbers. -/
def IsB (g : Nat) (F : Int → Int → Bool) : Prop := (∀ args w, (callFunc g args).run Tryz.prog w = .ok (.enter g args) w) ∧ ∀ w1 m n, Calls Tryz.prog g #[.int .i64 m, .int .i64 n] w1 fun e w' => e = .returned (.bool (F m n)) ∧ Drawn0 w1 w'
def vOrder (no : Bool) (F : Int → Int → Bool) (a b : V) : V := vTruth (if a.1 = 3 ∨ b.1 = 3 then no else F (vRank a) (vRank b))
set_option maxHeartbeats 4000000 in
set_option maxRecDepth 100000 in
theorem order1_calls (g : Nat) (no : Bool) (F : Int → Int → Bool) (hI : IsB g F) (b d : Nat) (x y : V) (w : World) (hc : w.cell? ⟨b, 0, none⟩ = some (.bool no)) (hd : w.cell? ⟨d, 0, none⟩ = some (.func (.func g) #[] #[])) :
    Calls Tryz.prog 105 #[vv x, vv y, .pointer (some ⟨b, 0, none⟩), .pointer (some ⟨d, 0, none⟩)] w fun e w' => e = .returned (vv (vOrder no F x y)) ∧ Below w.heap.size w w' := by
  obtain ⟨eg, hf⟩ := hI
  have hlt : b < w.heap.size := World.block_lt_of_cell? w _ hc
  have hlt' : d < w.heap.size := World.block_lt_of_cell? w _ hd
  obtain ⟨r1, r2, hrr⟩ : ∃ r1 r2, vOrder no F x y = (r1, r2) := ⟨_, _, rfl⟩
  have HT := Aside0.mk ((truth_is (if x.1 = 3 ∨ y.1 = 3 then no else F (vRank x) (vRank y))).trans (congrArg some hrr))
  have HF := Aside0.mk (fun w1 => hf w1 (vRank x) (vRank y))
  rw [hrr]
  clear hrr hf
  generalize F (vRank x) (vRank y) = fb at HF HT
  obtain ⟨xk, xn⟩ := x
  obtain ⟨yk, yn⟩ := y
  have hb0 : Below w.heap.size w (((w.alloc (.cells #[.int .i64 xk, .int .i64 xn] 25)).alloc (.cells #[.int .i64 yk, .int .i64 yn] 25)).alloc (.cells #[.int .i64 0, .int .i64 0] 25)) := (((Below.refl _ _).alloc (Nat.le_refl _) _).alloc (by simp) _).alloc (by simp; omega) _
  have cb : (((w.alloc (.cells #[.int .i64 xk, .int .i64 xn] 25)).alloc (.cells #[.int .i64 yk, .int .i64 yn] 25)).alloc (.cells #[.int .i64 0, .int .i64 0] 25)).cell? ⟨b, 0, none⟩ = some (.bool no) := (hb0.cell hlt).trans hc
  have cc : (((w.alloc (.cells #[.int .i64 xk, .int .i64 xn] 25)).alloc (.cells #[.int .i64 yk, .int .i64 yn] 25)).alloc (.cells #[.int .i64 0, .int .i64 0] 25)).cell? ⟨d, 0, none⟩ = some (.func (.func g) #[] #[]) := (hb0.cell hlt').trans hd
  have k0 : (((w.alloc (.cells #[.int .i64 xk, .int .i64 xn] 25)).alloc (.cells #[.int .i64 yk, .int .i64 yn] 25)).alloc (.cells #[.int .i64 0, .int .i64 0] 25)).cell? ⟨w.heap.size, 0, none⟩ = some (.int .i64 xk) := pw_cell_below (below_two (w.alloc _) _ _) (cell_new0 w _ _ _)
  have k1 : (((w.alloc (.cells #[.int .i64 xk, .int .i64 xn] 25)).alloc (.cells #[.int .i64 yk, .int .i64 yn] 25)).alloc (.cells #[.int .i64 0, .int .i64 0] 25)).cell? ⟨w.heap.size, 1, none⟩ = some (.int .i64 xn) := pw_cell_below (below_two (w.alloc _) _ _) (cell_new1 w _ _ _)
  have l0 : (((w.alloc (.cells #[.int .i64 xk, .int .i64 xn] 25)).alloc (.cells #[.int .i64 yk, .int .i64 yn] 25)).alloc (.cells #[.int .i64 0, .int .i64 0] 25)).cell? ⟨w.heap.size + 1, 0, none⟩ = some (.int .i64 yk) := pw_cell_below (below_one ((w.alloc _).alloc _) _) (by simp)
  have l1 : (((w.alloc (.cells #[.int .i64 xk, .int .i64 xn] 25)).alloc (.cells #[.int .i64 yk, .int .i64 yn] 25)).alloc (.cells #[.int .i64 0, .int .i64 0] 25)).cell? ⟨w.heap.size + 1, 1, none⟩ = some (.int .i64 yn) := pw_cell_below (below_one ((w.alloc _).alloc _) _) (by simp)
  have r0 : (((w.alloc (.cells #[.int .i64 xk, .int .i64 xn] 25)).alloc (.cells #[.int .i64 yk, .int .i64 yn] 25)).alloc (.cells #[.int .i64 0, .int .i64 0] 25)).heap[w.heap.size + 2]? = some (.cells #[.int .i64 0, .int .i64 0] 25 (0, 0)) := blk_new3' _ _ _ _
  have m0 := cell_of_row _ _ 0 _ _ _ r0
  have m1 := cell_of_row _ _ 1 _ _ _ r0
  have z0 := blk_frozen r0 0
  have z1 := blk_frozen r0 1
  simp only [List.getElem?_toArray, List.getElem?_cons_zero, List.getElem?_cons_succ] at m0 m1
  have HB0 := Aside0.mk hb0
  by_cases h1 : xk = 3
  · subst h1
    rw [if_pos (Or.inl rfl)] at HT
    clear HF eg hc hd r0
    go_enter Tryz.func105, Tryz.ntmps105
    go_wp2_with fail
    generalize ((w.alloc (.cells #[.int .i64 3, .int .i64 xn] 25)).alloc (.cells #[.int .i64 yk, .int .i64 yn] 25)).alloc (.cells #[.int .i64 0, .int .i64 0] 25) = W2 at HB0 cb cc k0 k1 l0 l1 m0 m1 z0 z1 ⊢
    clear hb0
    go_wp2_with (go_at_call 21; refine (value_Truth.calls _ r1 r2 _ HT.out).mono ?_; rintro e w1 ⟨rfl, hb1⟩; have m0_ := m0; have m1_ := m1; have cb := pw_cell_below hb1 cb; have cc := pw_cell_below hb1 cc; have k0 := pw_cell_below hb1 k0; have k1 := pw_cell_below hb1 k1; have l0 := pw_cell_below hb1 l0; have l1 := pw_cell_below hb1 l1; have m0 := pw_cell_below hb1 m0_; have m1 := pw_cell_below hb1 m1_; have z0 := fz_below hb1 m0_ z0; have z1 := fz_below hb1 m1_ z1; clear m0_ m1_; have HB0 := Aside0.mk (HB0.out.trans (hb1.mono HB0.out.size)); clear hb1)
    exact bodyPost_ret (v := vv (r1, r2)) (by simp [results, Tryz.results105, go_sem, m0, m1]) rfl ⟨rfl, (HB0.out.setCell (by simp; omega) _).setCell (by simp; omega) _⟩
  · have c1 : (xk == 3) = false := beq_eq_false_iff_ne.2 h1
    by_cases h2 : yk = 3
    · subst h2
      rw [if_pos (Or.inr rfl)] at HT
      clear h1
      clear HF eg hc hd r0
      go_enter Tryz.func105, Tryz.ntmps105
      go_wp2_with fail
      generalize ((w.alloc (.cells #[.int .i64 xk, .int .i64 xn] 25)).alloc (.cells #[.int .i64 3, .int .i64 yn] 25)).alloc (.cells #[.int .i64 0, .int .i64 0] 25) = W2 at HB0 cb cc k0 k1 l0 l1 m0 m1 z0 z1 ⊢
      clear hb0
      go_wp2_with (go_at_call 21; refine (value_Truth.calls _ r1 r2 _ HT.out).mono ?_; rintro e w1 ⟨rfl, hb1⟩; have m0_ := m0; have m1_ := m1; have cb := pw_cell_below hb1 cb; have cc := pw_cell_below hb1 cc; have k0 := pw_cell_below hb1 k0; have k1 := pw_cell_below hb1 k1; have l0 := pw_cell_below hb1 l0; have l1 := pw_cell_below hb1 l1; have m0 := pw_cell_below hb1 m0_; have m1 := pw_cell_below hb1 m1_; have z0 := fz_below hb1 m0_ z0; have z1 := fz_below hb1 m1_ z1; clear m0_ m1_; have HB0 := Aside0.mk (HB0.out.trans (hb1.mono HB0.out.size)); clear hb1)
      exact bodyPost_ret (v := vv (r1, r2)) (by simp [results, Tryz.results105, go_sem, m0, m1]) rfl ⟨rfl, (HB0.out.setCell (by simp; omega) _).setCell (by simp; omega) _⟩
    · have c2 : (yk == 3) = false := beq_eq_false_iff_ne.2 h2
      rw [if_neg (fun h => h.elim h1 h2)] at HT
      clear h1 h2 hc hd r0
      go_enter Tryz.func105, Tryz.ntmps105
      go_wp2_with fail
      generalize ((w.alloc (.cells #[.int .i64 xk, .int .i64 xn] 25)).alloc (.cells #[.int .i64 yk, .int .i64 yn] 25)).alloc (.cells #[.int .i64 0, .int .i64 0] 25) = W2 at HB0 cb cc k0 k1 l0 l1 m0 m1 z0 z1 ⊢
      clear hb0
      go_region_with (first
          | (go_at_call 63; refine (rank_calls _ _ _).mono ?_; rintro e w1 ⟨rfl, hb1⟩; first | (have m0_ := m0; have m1_ := m1; have cb := pw_cell_below hb1 cb; have cc := pw_cell_below hb1 cc; have k0 := pw_cell_below hb1 k0; have k1 := pw_cell_below hb1 k1; have l0 := pw_cell_below hb1 l0; have l1 := pw_cell_below hb1 l1; have m0 := pw_cell_below hb1 m0_; have m1 := pw_cell_below hb1 m1_; have z0 := fz_below hb1 m0_ z0; have z1 := fz_below hb1 m1_ z1; clear m0_ m1_; have HB0 := Aside0.mk (HB0.out.trans (hb1.mono HB0.out.size)); clear hb1) | (have m0_ := m0; have m1_ := m1; have cb := pw_cell_below hb1 cb; have cc := pw_cell_below hb1 cc; have k0 := pw_cell_below hb1 k0; have k1 := pw_cell_below hb1 k1; have l0 := pw_cell_below hb1 l0; have l1 := pw_cell_below hb1 l1; have m0 := pw_cell_below hb1 m0_; have m1 := pw_cell_below hb1 m1_; have z0 := fz_below hb1 m0_ z0; have z1 := fz_below hb1 m1_ z1; clear m0_ m1_; have HB0 := Aside0.mk (HB0.out.trans (((Below.refl _ _).drew.trans hb1).mono HB0.out.size)); clear hb1))
          | (go_at_fn g; refine (HF.out _).mono ?_; rintro e w1 ⟨rfl, hb1'⟩; have hb1 := hb1'.below; clear hb1'; have m0_ := m0; have m1_ := m1; have cb := pw_cell_below hb1 cb; have cc := pw_cell_below hb1 cc; have k0 := pw_cell_below hb1 k0; have k1 := pw_cell_below hb1 k1; have l0 := pw_cell_below hb1 l0; have l1 := pw_cell_below hb1 l1; have m0 := pw_cell_below hb1 m0_; have m1 := pw_cell_below hb1 m1_; have z0 := fz_below hb1 m0_ z0; have z1 := fz_below hb1 m1_ z1; clear m0_ m1_; have HB0 := Aside0.mk (HB0.out.trans (hb1.mono HB0.out.size)); clear hb1)
          | (go_at_call 21; refine (value_Truth.calls _ r1 r2 _ HT.out).mono ?_; rintro e w1 ⟨rfl, hb1⟩; have m0_ := m0; have m1_ := m1; have cb := pw_cell_below hb1 cb; have cc := pw_cell_below hb1 cc; have k0 := pw_cell_below hb1 k0; have k1 := pw_cell_below hb1 k1; have l0 := pw_cell_below hb1 l0; have l1 := pw_cell_below hb1 l1; have m0 := pw_cell_below hb1 m0_; have m1 := pw_cell_below hb1 m1_; have z0 := fz_below hb1 m0_ z0; have z1 := fz_below hb1 m1_ z1; clear m0_ m1_; have HB0 := Aside0.mk (HB0.out.trans (hb1.mono HB0.out.size)); clear hb1))
      all_goals
        go_wp2_with fail
        exact bodyPost_ret (v := vv (r1, r2)) (by simp [results, Tryz.results105, go_sem, m0, m1]) rfl ⟨rfl, (HB0.out.setCell (by simp; omega) _).setCell (by simp; omega) _⟩
end Go.Proofs.YtcmiehddjgfjaaaGreatDoor.A
namespace Go.Proofs.YtcmiehddjgfjaaaGreatDoor.A
open Go.RowKit Go.Proofs.YtcmiehddjgfjaaaGreatDoorW.PrintWords Go.Proofs.YtcmiehddjgfjaaaGreatDoorW.PrintLast Go.Proofs.YtcmiehddjgfjaaaGreatDoorW.PrintMore Go.Proofs.YtcmiehddjgfjaaaGreatDoor.V
set_option linter.unusedVariables false
set_option linter.unusedSimpArgs false
def layC_ren : Go.Shelf.Ren := ⟨fun | 29 => 126 | 31 => 99 | n => n, fun | 22 => 103 | 23 => 3 | n => n, fun | n => n⟩
theorem layC : Go.Proofs.SlLaysE.n31 Tryz.prog layC_ren := {
  mixed := by kernel_rfl
  f29 := ⟨Tryz.f126.name, by decide, Tryz.func126.trans (congrArg some (by kernel_rfl))⟩
  f31 := ⟨Tryz.f99.name, by decide, Tryz.func99.trans (congrArg some (by kernel_rfl))⟩
  t0 := Tryz.underlying0
  a0 := Tryz.isAgg0
  z0 := Tryz.sizeOf0
  v0 := Tryz.zeroValue0
  t3 := Tryz.underlying3
  a3 := Tryz.isAgg3
  z3 := Tryz.sizeOf3
  v3 := Tryz.zeroValue3
  t4 := Tryz.underlying4
  a4 := Tryz.isAgg4
  z4 := Tryz.sizeOf4
  v4 := Tryz.zeroValue4
  t22 := Tryz.underlying103
  a22 := Tryz.isAgg103
  z22 := Tryz.sizeOf103
  v22 := Tryz.zeroValue103
  a23 := Tryz.isAgg3
  z23 := Tryz.sizeOf3 }
def vKind (ks : List Int) (a : V) : V := vTruth (ks.any fun y => a.1 == y)
set_option maxHeartbeats 4000000 in
set_option maxRecDepth 100000 in
theorem kind1_calls (ks : List Int) (bb cap b : Nat) (x : V) (w : World) (hl : ks.length ≤ 9223372036854775807) (hc : w.cell? ⟨b, 0, none⟩ = some (.slice (some ⟨bb, 0, none⟩) ks.length cap)) (hk : ∀ j, j < ks.length → w.cell? ⟨bb, j, none⟩ = some (.int .i64 ks[j]!)) :
    Calls Tryz.prog 98 #[vv x, .pointer (some ⟨b, 0, none⟩)] w fun e w' => e = .returned (vv (vKind ks x)) ∧ Below w.heap.size w w' := by
  have hlt : b < w.heap.size := World.block_lt_of_cell? w _ hc
  obtain ⟨xk, xn⟩ := x
  have HCON := Aside0.mk (fun (w1 : World) (h1 : Below w.heap.size w w1) => AnyE.slices_Contains layC (Value.int .i64) (fun x y => x == y) (EqlAt.int _ _ .i64) bb 0 ks.length cap ks xk w1 (Nat.le_refl _) hl (fun j hj => (h1.cell (p := ⟨bb, 0 + j, none⟩) (World.block_lt_of_cell? w ⟨bb, j, none⟩ (hk j hj))).trans (by rw [Nat.zero_add]; exact hk j hj)))
  obtain ⟨r1, r2, hrr⟩ : ∃ r1 r2, vKind ks (xk, xn) = (r1, r2) := ⟨_, _, rfl⟩
  have HT := Aside0.mk ((truth_is (ks.any fun y => xk == y)).trans (congrArg some hrr))
  rw [hrr]
  clear hrr hk
  rw [List.take_length] at HCON
  generalize (ks.any fun y => xk == y) = q at HT HCON
  generalize ks.length = n at hc HCON
  have hb0 : Below w.heap.size w ((w.alloc (.cells #[.int .i64 xk, .int .i64 xn] 25)).alloc (.cells #[.int .i64 0, .int .i64 0] 25)) := below_two w _ _
  have cb : ((w.alloc (.cells #[.int .i64 xk, .int .i64 xn] 25)).alloc (.cells #[.int .i64 0, .int .i64 0] 25)).cell? ⟨b, 0, none⟩ = some (.slice (some ⟨bb, 0, none⟩) n cap) := (hb0.cell hlt).trans hc
  have k0 : ((w.alloc (.cells #[.int .i64 xk, .int .i64 xn] 25)).alloc (.cells #[.int .i64 0, .int .i64 0] 25)).cell? ⟨w.heap.size, 0, none⟩ = some (.int .i64 xk) := pw_cell_below (below_one (w.alloc _) _) (cell_new0 w _ _ _)
  have r0 : ((w.alloc (.cells #[.int .i64 xk, .int .i64 xn] 25)).alloc (.cells #[.int .i64 0, .int .i64 0] 25)).heap[w.heap.size + 1]? = some (.cells #[.int .i64 0, .int .i64 0] 25 (0, 0)) := blk_new2' _ _ _
  have m0 := cell_of_row _ _ 0 _ _ _ r0
  have m1 := cell_of_row _ _ 1 _ _ _ r0
  have z0 := blk_frozen r0 0
  have z1 := blk_frozen r0 1
  simp only [List.getElem?_toArray, List.getElem?_cons_zero, List.getElem?_cons_succ] at m0 m1
  have HB0 := Aside0.mk hb0
  clear hc r0 hl
  go_enter Tryz.func98, Tryz.ntmps98
  go_wp2_with fail
  generalize (w.alloc (.cells #[.int .i64 xk, .int .i64 xn] 25)).alloc (.cells #[.int .i64 0, .int .i64 0] 25) = W2 at HB0 cb k0 m0 m1 z0 z1 ⊢
  clear hb0
  go_wp2_with (first
    | (go_at_call 99; refine (HCON.out _ HB0.out).mono ?_; rintro e w' ⟨rfl, rfl⟩)
    | (go_at_call 21; refine (value_Truth.calls _ r1 r2 _ HT.out).mono ?_; rintro e w1 ⟨rfl, hb1⟩; have m0_ := m0; have m1_ := m1; have m0 := pw_cell_below hb1 m0_; have m1 := pw_cell_below hb1 m1_; have z0 := fz_below hb1 m0_ z0; have z1 := fz_below hb1 m1_ z1; clear m0_ m1_; have HB0 := Aside0.mk (HB0.out.trans (hb1.mono HB0.out.size)); clear hb1))
  exact bodyPost_ret (v := vv (r1, r2)) (by simp [results, Tryz.results98, go_sem, m0, m1]) rfl ⟨rfl, (HB0.out.setCell (by simp) _).setCell (by simp) _⟩
end Go.Proofs.YtcmiehddjgfjaaaGreatDoor.A
namespace Go.Proofs.YtcmiehddjgfjaaaGreatDoor.V
open Go.RowKit Go.Proofs.YtcmiehddjgfjaaaGreatDoorW.PrintWords Go.Proofs.YtcmiehddjgfjaaaGreatDoorW.PrintLast Go.Proofs.YtcmiehddjgfjaaaGreatDoorW.PrintMore
set_option linter.unusedVariables false
set_option linter.unusedSimpArgs false
/-- All blocks but r are as they were. -/
def Keeps (r : Nat) (w w1 : World) : Prop := w.heap.size ≤ w1.heap.size ∧ ∀ b, b < w.heap.size → b ≠ r → w1.heap[b]? = w.heap[b]?
theorem Keeps.refl (r : Nat) (w : World) : Keeps r w w := ⟨Nat.le_refl _, fun _ _ _ => rfl⟩
theorem Keeps.trans {r : Nat} {w w1 w2 : World} (h : Keeps r w w1) (h' : Keeps r w1 w2) : Keeps r w w2 := ⟨Nat.le_trans h.1 h'.1, fun b hb hn => (h'.2 b (Nat.lt_of_lt_of_le hb h.1) hn).trans (h.2 b hb hn)⟩
theorem Keeps.of_below {r : Nat} {w w1 : World} (h : Below w.heap.size w w1) : Keeps r w w1 := ⟨h.size, fun b hb _ => h.block b hb⟩
theorem cell_of_block {w w1 : World} {a : Addr} (h : w1.heap[a.block]? = w.heap[a.block]?) : w1.cell? a = w.cell? a := by
  unfold World.cell?
  rw [h]
theorem Keeps.cell {r : Nat} {w w1 : World} (h : Keeps r w w1) {b o : Nat} {v : Value} (hn : b ≠ r) (hc : w.cell? ⟨b, o, none⟩ = some v) : w1.cell? ⟨b, o, none⟩ = some v :=
  (cell_of_block (a := ⟨b, o, none⟩) (h.2 b (World.block_lt_of_cell? w _ hc) hn)).trans hc
section
variable {P : Program} {w : World} {r : Nat} {l : List (ByteArray × Value)} {T ks el : TypeId}
theorem run_insertK (ht : P.underlying T = some (.map ks el)) (hs : P.underlying ks = some .string) (h : HM w r l) (s : ByteArray) (v : Value) (hno : l.lookup s = none) :
    ∃ w', (Instr.mapUpdate T (.map (some r)) (.string s) v).run P w = .ok () w' ∧ HM w' r (l ++ [(s, v)]) ∧ (∀ B w0, B ≤ r → Below B w0 w → Below B w0 w') ∧ Keeps r w w' := by
  have hlt : r < w.heap.size := (Array.getElem?_eq_some_iff.1 h).1
  obtain ⟨j, hf⟩ := find_some s l 0 0
  rw [hno] at hf
  refine ⟨{ w with heap := w.heap.setIfInBounds r (.map ((ents l 0).toArray.push { key := .string s, val := v, born := l.length }) (l.length + 1)) }, ?_, ?_, ?_, ?_⟩
  · have hget : w.heap[r]? = some (.map (ents l 0).toArray l.length) := h
    have hfk : (Instr.findKey ks (.string s) (ents l 0)).run P w = .ok none w := MapKept.run_findKey hs hf
    have hck : (Instr.checkKey false 10000 ks (.string s)).run P w = .ok () w := MapKept.run_checkKey hs (by simp [MapKept.IsKey]) false 9999
    have hst := fun o => MapKept.run_setObj_map (P := P) o hget
    simp [Instr.mapUpdate, run_underlying ht, hck, MapKept.run_getObj_map hget, hst, hfk]
  · unfold HM
    simp [hlt, ents_snoc]
  · intro B w0 hB hb
    refine hb.trans ⟨rfl, rfl, rfl, by simp, fun k hk => ?_⟩
    simp only
    rw [Array.getElem?_setIfInBounds_ne (by omega)]
  · refine ⟨by simp, fun b hb hn => ?_⟩
    simp only
    rw [Array.getElem?_setIfInBounds_ne (by omega)]
end
section
variable {P : Program} {ops : Array Oper} {rest : List Oper} {o : Oper} {a : Act} {Q : Exit → Act → World → Prop} {w w0 : World} {r B : Nat} {l : List (ByteArray × Value)} {T ks el : TypeId}
/-- One entry more, in a literal. -/
theorem wpList_insertK (s : ByteArray) {m v : Operand} (hd : o.dst = none) (hgd : o.guard = none) (ho : o.op = .insert T m (.const (.string s)) v) (ht : P.underlying T = some (.map ks el)) (hs : P.underlying ks = some .string)
    (u : Value) (hm : a.eval m = .map (some r)) (hv : a.eval v = u) (h : HM w r l) (hno : l.lookup s = none) (hB : B ≤ r) (HB : Below B w0 w)
    (hK : ∀ w', HM w' r (l ++ [(s, u)]) → Below B w0 w' → Keeps r w w' → wpList P ops Q rest a w') : wpList P ops Q (o :: rest) a w := by
  subst hv
  obtain ⟨w', h1, h2, h3, h4⟩ := run_insertK ht hs h s (a.eval v) hno
  refine wpList_plain hgd fun K hK' => ?_
  unfold Oper.wp execOp
  have hc : a.eval (.const (.string s)) = .string s := rfl
  simp only [ho, hm, hc, Sem.run_bind, Sem.run_pure, Result.andThen_ok, h1]
  show K (a.put o.dst undef) _
  rw [hd]
  exact hK' a _ (hK w' h2 (h3 B w0 hB HB) h4)
end
end Go.Proofs.YtcmiehddjgfjaaaGreatDoor.V
namespace Go.Proofs.YtcmiehddjgfjaaaGreatDoor.A
open Go.RowKit Go.Proofs.YtcmiehddjgfjaaaGreatDoorW.PrintWords Go.Proofs.YtcmiehddjgfjaaaGreatDoorW.PrintLast Go.Proofs.YtcmiehddjgfjaaaGreatDoorW.PrintMore Go.Proofs.YtcmiehddjgfjaaaGreatDoor.V
set_option linter.unusedVariables false
set_option linter.unusedSimpArgs false
/-- f tells F of a value, in whatever world in which all but block r lies as it does here. -/
def At1 (f : Value) (r : Nat) (w : World) (F : V → V) : Prop := ∃ (g : Nat) (cb : Array Value), f = .func (.func g) #[] cb ∧ (∀ args w, (callFunc g args).run Tryz.prog w = .ok (.enter g args) w) ∧
  ∀ w1, Keeps r w w1 → ∀ a, isV a → Calls Tryz.prog g (#[vv a] ++ cb) w1 fun e w' => e = .returned (vv (F a)) ∧ Below w1.heap.size w1 w'
def At2 (f : Value) (r : Nat) (w : World) (F : V → V → V) : Prop := ∃ (g : Nat) (cb : Array Value), f = .func (.func g) #[] cb ∧ (∀ args w, (callFunc g args).run Tryz.prog w = .ok (.enter g args) w) ∧
  ∀ w1, Keeps r w w1 → ∀ a b, isV a → isV b → Calls Tryz.prog g (#[vv a, vv b] ++ cb) w1 fun e w' => e = .returned (vv (F a b)) ∧ Below w1.heap.size w1 w'
theorem At1.keeps {f : Value} {r : Nat} {w w' : World} {F : V → V} (h : At1 f r w F) (hb : Keeps r w w') : At1 f r w' F := by
  obtain ⟨g, cb, rfl, eg, hc⟩ := h
  exact ⟨g, cb, rfl, eg, fun w1 h1 => hc w1 (hb.trans h1)⟩
theorem At2.keeps {f : Value} {r : Nat} {w w' : World} {F : V → V → V} (h : At2 f r w F) (hb : Keeps r w w') : At2 f r w' F := by
  obtain ⟨g, cb, rfl, eg, hc⟩ := h
  exact ⟨g, cb, rfl, eg, fun w1 h1 => hc w1 (hb.trans h1)⟩
set_option maxRecDepth 100000 in
theorem plain_calls (g : Nat) (F : Int → Int) (hI : IsI g F) (r : Nat) (w : World) (hr : r < w.heap.size) :
    Calls Tryz.prog 52 #[.func (.func g) #[] #[]] w fun e w' => ∃ f, e = .returned f ∧ At1 f r w' (vPlain F) ∧ Below w.heap.size w w' := by
  have HI := Aside0.mk hI
  clear hI
  go_enter Tryz.func52, Tryz.ntmps52
  go_wp2
  go_ret
  refine ⟨_, rfl, ⟨97, #[.pointer (some ⟨w.heap.size, 0, none⟩)], rfl, enters_of Tryz.func97 (by kernel_rfl) rfl, fun w1 h1 a ha => ?_⟩, below_one w _⟩
  exact plain1_calls g F HI.out w.heap.size a w1 ha (h1.cell (by omega) (by simp))
set_option maxRecDepth 100000 in
theorem numbers_calls (g : Nat) (F : V → V → V) (hI : IsP g F) (r : Nat) (w : World) (hr : r < w.heap.size) :
    Calls Tryz.prog 59 #[.func (.func g) #[] #[]] w fun e w' => ∃ f, e = .returned f ∧ At2 f r w' (vNumbers F) ∧ Below w.heap.size w w' := by
  have HI := Aside0.mk hI
  clear hI
  go_enter Tryz.func59, Tryz.ntmps59
  go_wp2
  go_ret
  refine ⟨_, rfl, ⟨100, #[.pointer (some ⟨w.heap.size, 0, none⟩)], rfl, enters_of Tryz.func100 (by kernel_rfl) rfl, fun w1 h1 a b ha hb => ?_⟩, below_one w _⟩
  exact numbers1_calls g F HI.out w.heap.size a b w1 ha hb (h1.cell (by omega) (by simp))
set_option maxRecDepth 100000 in
theorem order_calls (no : Bool) (g : Nat) (F : Int → Int → Bool) (hI : IsB g F) (r : Nat) (w : World) (hr : r < w.heap.size) :
    Calls Tryz.prog 66 #[.bool no, .func (.func g) #[] #[]] w fun e w' => ∃ f, e = .returned f ∧ At2 f r w' (vOrder no F) ∧ Below w.heap.size w w' := by
  have HI := Aside0.mk hI
  clear hI
  go_enter Tryz.func66, Tryz.ntmps66
  go_wp2
  go_ret
  refine ⟨_, rfl, ⟨105, #[.pointer (some ⟨w.heap.size, 0, none⟩), .pointer (some ⟨w.heap.size + 1, 0, none⟩)], rfl, enters_of Tryz.func105 (by kernel_rfl) rfl, fun w1 h1 a b ha hb => ?_⟩, below_two w _ _⟩
  exact order1_calls g no F HI.out w.heap.size (w.heap.size + 1) a b w1 (h1.cell (by omega) (by simp)) (h1.cell (by omega) (by simp))
set_option maxRecDepth 100000 in
theorem kind_calls (ks : List Int) (bb cap r : Nat) (w : World) (hr : r < w.heap.size) (hbr : bb ≠ r) (hl : ks.length ≤ 9223372036854775807) (hk : ∀ j, j < ks.length → w.cell? ⟨bb, j, none⟩ = some (.int .i64 ks[j]!)) :
    Calls Tryz.prog 58 #[.slice (some ⟨bb, 0, none⟩) ks.length cap] w fun e w' => ∃ f, e = .returned f ∧ At1 f r w' (vKind ks) ∧ Below w.heap.size w w' := by
  have HK := Aside0.mk hk
  clear hk
  go_enter Tryz.func58, Tryz.ntmps58
  go_wp2
  go_ret
  refine ⟨_, rfl, ⟨98, #[.pointer (some ⟨w.heap.size, 0, none⟩)], rfl, enters_of Tryz.func98 (by kernel_rfl) rfl, fun w1 h1 a ha => ?_⟩, below_one w _⟩
  exact kind1_calls ks bb cap w.heap.size a w1 hl (h1.cell (by omega) (by simp)) fun j hj => h1.cell hbr (pw_cell_below (below_one w _) (HK.out j hj))
theorem ones1_is : IsI 53 (fun n => -n) := ⟨enters_of Tryz.func53 (by kernel_rfl) rfl, fun w1 n h0 h1 => by
  refine (value_ones_1.calls n (-n) w1 ?_).mono fun e w' h => ⟨h.1, h.2.below⟩
  unfold value_ones_1.f
  rw [wrap_id (by omega) (by omega)]⟩
def vMax (n : Int) : Int := if n < -n then -n else n
theorem ones2_is : IsI 54 vMax := ⟨enters_of Tryz.func54 (by kernel_rfl) rfl, fun w1 n h0 h1 => by
  refine value_ones_2.calls n (vMax n) w1 ?_
  unfold value_ones_2.f
  rw [wrap_id (by omega) (by omega)]; rfl⟩
def vFloor (a : V) : V := if a.1 = 1 then vNum (a.2 - (a.2.tmod 1000 + 1000).tmod 1000) else a
def vNot (a : V) : V := if a.1 = 2 then a else vTruth (!vTrue a)
theorem tmod_bd (x : Int) : -1000 < x.tmod 1000 ∧ x.tmod 1000 < 1000 := ⟨Int.lt_tmod_of_pos x (by decide), Int.tmod_lt_of_pos x (by decide)⟩
theorem ones3_is {a : V} (ha : isV a) : value_ones_3.f a.1 a.2 = some (vFloor a) := by
  unfold value_ones_3.f vFloor
  have e : value_finite.f a.1 a.2 = some (decide (a.1 = 1)) := by
    unfold value_finite.f
    first | rfl | (congr 1)
  rw [e]
  show (if decide (a.1 = 1) = true then _ else _) = _
  by_cases h : a.1 = 1
  · have hb : -1000000000000000 ≤ a.2 ∧ a.2 ≤ 1000000000000000 := by
      rcases ha with ⟨_, h1, h2⟩ | ⟨_, h2⟩
      · exact ⟨h1, h2⟩
      · omega
    rw [if_pos (decide_eq_true h), if_pos h]
    have t1 := tmod_bd a.2
    have t2 := tmod_bd (a.2.tmod 1000 + 1000)
    have e1 : wrap64 (a.2.tmod 1000 + 1000) = a.2.tmod 1000 + 1000 := wrap_id (by omega) (by omega)
    rw [e1, wrap_id (by omega) (by omega), num_is]; rfl
  · rw [if_neg (by simpa using h), if_neg h]
theorem ones4_is (a : V) : value_ones_4.f a.1 a.2 = some (vNot a) := by
  unfold value_ones_4.f vNot
  rw [true_is a]
  by_cases h : a.1 = 2
  · rw [if_pos h, if_pos h]
  · rw [if_neg h, if_neg h]
    show (value_Truth.f (!vTrue a)).bind _ = _
    rw [truth_is]; rfl
theorem is1_ones3 (r : Nat) (w : World) : At1 (.func (.func 55) #[] #[]) r w vFloor := ⟨_, _, rfl, enters_of Tryz.func55 (by kernel_rfl) rfl, fun w1 _ a ha => value_ones_3.calls a.1 a.2 _ _ w1 (ones3_is ha)⟩
theorem is1_ones4 (r : Nat) (w : World) : At1 (.func (.func 57) #[] #[]) r w vNot := ⟨_, _, rfl, enters_of Tryz.func57 (by kernel_rfl) rfl, fun w1 _ a ha => value_ones_4.calls a.1 a.2 _ _ w1 (ones4_is a)⟩
theorem add_isP : IsP 60 vAdd := ⟨enters_of Tryz.func60 (by kernel_rfl) rfl, fun w1 a b ha hb => value_add.calls 3 a.1 a.2 b.1 b.2 _ _ w1 (add_is ha hb)⟩
theorem mul_isP : IsP 64 vMul := ⟨enters_of Tryz.func64 (by kernel_rfl) rfl, fun w1 a b ha hb => value_mul.calls 1 a.1 a.2 b.1 b.2 _ _ w1 (mul_is ha hb)⟩
theorem div_isP : IsP 65 vDiv := ⟨enters_of Tryz.func65 (by kernel_rfl) rfl, fun w1 a b ha hb => value_div.calls 2 a.1 a.2 b.1 b.2 _ _ w1 (div_is ha hb)⟩
def vSub (a b : V) : V := vAdd a (vNum (-vRank b))
theorem sub_is {a b : V} (ha : isV a) (hb : isV b) : value_twos_1.f 3 a.1 a.2 b.1 b.2 = some (vSub a b) := by
  have hr := isV_rank hb
  unfold value_twos_1.f vSub
  rw [rank_is b]
  show (value_back.f (wrap64 (-vRank b))).bind _ = _
  rw [wrap_id (by omega) (by omega), back_is]
  show (value_add.f 3 a.1 a.2 (vNum (-vRank b)).1 (vNum (-vRank b)).2).bind _ = _
  rw [add_is ha isV_num]; rfl
theorem sub_isP : IsP 61 vSub := ⟨enters_of Tryz.func61 (by kernel_rfl) rfl, fun w1 a b ha hb => value_twos_1.calls 3 a.1 a.2 b.1 b.2 _ _ w1 (sub_is ha hb)⟩
theorem eq_isB : IsB 67 (fun m n => m == n) := ⟨enters_of Tryz.func67 (by kernel_rfl) rfl, fun w1 m n => value_twos_2.calls m n _ w1 rfl⟩
theorem ne_isB : IsB 68 (fun m n => m != n) := ⟨enters_of Tryz.func68 (by kernel_rfl) rfl, fun w1 m n => value_twos_3.calls m n _ w1 rfl⟩
theorem lt_isB : IsB 69 (fun m n => decide (m < n)) := ⟨enters_of Tryz.func69 (by kernel_rfl) rfl, fun w1 m n => value_twos_4.calls m n _ w1 rfl⟩
theorem le_isB : IsB 70 (fun m n => decide (m ≤ n)) := ⟨enters_of Tryz.func70 (by kernel_rfl) rfl, fun w1 m n => value_twos_5.calls m n _ w1 rfl⟩
theorem gt_isB : IsB 71 (fun m n => decide (m > n)) := ⟨enters_of Tryz.func71 (by kernel_rfl) rfl, fun w1 m n => value_twos_6.calls m n _ w1 rfl⟩
theorem ge_isB : IsB 72 (fun m n => decide (m ≥ n)) := ⟨enters_of Tryz.func72 (by kernel_rfl) rfl, fun w1 m n => value_twos_7.calls m n _ w1 rfl⟩
def vAnd (a b : V) : V := vTruth (vTrue a && vTrue b)
def vOr (a b : V) : V := vTruth (vTrue a || vTrue b)
theorem and_is (a b : V) : value_twos_8.f a.1 a.2 b.1 b.2 = some (vAnd a b) := by
  unfold value_twos_8.f vAnd
  rw [true_is a, true_is b]
  cases vTrue a <;> simp [truth_is]
theorem or_is (a b : V) : value_twos_9.f a.1 a.2 b.1 b.2 = some (vOr a b) := by
  unfold value_twos_9.f vOr
  rw [true_is a, true_is b]
  cases vTrue a <;> simp [truth_is]
theorem is2_and (r : Nat) (w : World) : At2 (.func (.func 73) #[] #[]) r w vAnd := ⟨_, _, rfl, enters_of Tryz.func73 (by kernel_rfl) rfl, fun w1 _ a b ha hb => value_twos_8.calls a.1 a.2 b.1 b.2 _ _ w1 (and_is a b)⟩
theorem is2_or (r : Nat) (w : World) : At2 (.func (.func 74) #[] #[]) r w vOr := ⟨_, _, rfl, enters_of Tryz.func74 (by kernel_rfl) rfl, fun w1 _ a b ha hb => value_twos_9.calls a.1 a.2 b.1 b.2 _ _ w1 (or_is a b)⟩
def oneI (g : Nat) : Int → Int := if g = 53 then (fun n => -n) else vMax
theorem oneI_is {g : Nat} (h : g = 53 ∨ g = 54) : IsI g (oneI g) := by
  rcases h with rfl | rfl
  · exact ones1_is
  · exact ones2_is
def twoP (g : Nat) : V → V → V := if g = 60 then vAdd else if g = 61 then vSub else if g = 64 then vMul else vDiv
theorem twoP_is {g : Nat} (h : g = 60 ∨ g = 61 ∨ g = 64 ∨ g = 65) : IsP g (twoP g) := by
  rcases h with rfl | rfl | rfl | rfl
  · exact add_isP
  · exact sub_isP
  · exact mul_isP
  · exact div_isP
def twoB (g : Nat) : Int → Int → Bool := if g = 67 then (fun m n => m == n) else if g = 68 then (fun m n => m != n) else if g = 69 then (fun m n => decide (m < n)) else if g = 70 then (fun m n => decide (m ≤ n)) else if g = 71 then (fun m n => decide (m > n)) else (fun m n => decide (m ≥ n))
theorem twoB_is {g : Nat} (h : g = 67 ∨ g = 68 ∨ g = 69 ∨ g = 70 ∨ g = 71 ∨ g = 72) : IsB g (twoB g) := by
  rcases h with rfl | rfl | rfl | rfl | rfl | rfl
  · exact eq_isB
  · exact ne_isB
  · exact lt_isB
  · exact le_isB
  · exact gt_isB
  · exact ge_isB
theorem kind_one (k : Int) (r : Nat) (w : World) (hr : r < w.heap.size) : Calls Tryz.prog 58 #[.slice (some ⟨w.heap.size, 0, none⟩) 1 1] (w.alloc (.cells #[.int .i64 k] 3)) fun e w' => ∃ f, e = .returned f ∧ At1 f r w' (vKind [k]) ∧ Below w.heap.size w w' :=
  (kind_calls [k] w.heap.size 1 r _ (by simp; omega) (by omega) (by simp) (fun j hj => by
    have : j = 0 := by simp at hj; exact hj
    subst this; simp)).mono fun e w' ⟨f, h1, h2, h3⟩ => ⟨f, h1, h2, (below_one w _).trans (h3.mono (by simp))⟩
theorem kind_two (k l : Int) (r : Nat) (w : World) (hr : r < w.heap.size) : Calls Tryz.prog 58 #[.slice (some ⟨w.heap.size, 0, none⟩) 2 2] (w.alloc (.cells #[.int .i64 k, .int .i64 l] 3)) fun e w' => ∃ f, e = .returned f ∧ At1 f r w' (vKind [k, l]) ∧ Below w.heap.size w w' :=
  (kind_calls [k, l] w.heap.size 2 r _ (by simp; omega) (by omega) (by simp) (fun j hj => by
    have : j = 0 ∨ j = 1 := by simp at hj; omega
    rcases this with rfl | rfl <;> simp)).mono fun e w' ⟨f, h1, h2, h3⟩ => ⟨f, h1, h2, (below_one w _).trans (h3.mono (by simp))⟩
end Go.Proofs.YtcmiehddjgfjaaaGreatDoor.A
namespace Go.Proofs.YtcmiehddjgfjaaaGreatDoor.A
open Go.RowKit Go.Proofs.YtcmiehddjgfjaaaGreatDoorW.PrintWords Go.Proofs.YtcmiehddjgfjaaaGreatDoorW.PrintLast Go.Proofs.YtcmiehddjgfjaaaGreatDoorW.PrintMore Go.Proofs.YtcmiehddjgfjaaaGreatDoor.V
set_option linter.unusedVariables false
set_option linter.unusedSimpArgs false
/-- The entries are these functions. -/
inductive Ents1 (r : Nat) (w : World) : List (ByteArray × Value) → List (ByteArray × (V → V)) → Prop
  | nil : Ents1 r w [] []
  | snoc {l t s f F} : Ents1 r w l t → At1 f r w F → Ents1 r w (l ++ [(s, f)]) (t ++ [(s, F)])
inductive Ents2 (r : Nat) (w : World) : List (ByteArray × Value) → List (ByteArray × (V → V → V)) → Prop
  | nil : Ents2 r w [] []
  | snoc {l t s f F} : Ents2 r w l t → At2 f r w F → Ents2 r w (l ++ [(s, f)]) (t ++ [(s, F)])
theorem Ents1.keeps {r : Nat} {w w' : World} {l t} (h : Ents1 r w l t) (hk : Keeps r w w') : Ents1 r w' l t := by
  induction h with
  | nil => exact .nil
  | snoc _ hf ih => exact .snoc ih (hf.keeps hk)
theorem Ents2.keeps {r : Nat} {w w' : World} {l t} (h : Ents2 r w l t) (hk : Keeps r w w') : Ents2 r w' l t := by
  induction h with
  | nil => exact .nil
  | snoc _ hf ih => exact .snoc ih (hf.keeps hk)
theorem lookup_snoc {α : Type} (op s : ByteArray) (f : α) : ∀ l : List (ByteArray × α), (l ++ [(s, f)]).lookup op = (l.lookup op).or (if (op == s) = true then some f else none)
  | [] => by rw [List.nil_append, List.lookup_cons]; cases op == s <;> rfl
  | (t, g) :: l => by
    rw [List.cons_append, List.lookup_cons, List.lookup_cons]
    cases op == t
    · exact lookup_snoc op s f l
    · rfl
/-- What is found. -/
theorem Ents1.find {r : Nat} {w : World} {l t} (h : Ents1 r w l t) (op : ByteArray) : (l.lookup op = none ∧ t.lookup op = none) ∨ ∃ f F, l.lookup op = some f ∧ t.lookup op = some F ∧ At1 f r w F := by
  induction h with
  | nil => exact .inl ⟨rfl, rfl⟩
  | @snoc l t s f F _ hf ih =>
    rw [lookup_snoc, lookup_snoc]
    rcases ih with ⟨h1, h2⟩ | ⟨f', F', h1, h2, h3⟩
    · rw [h1, h2]
      cases hs : op == s
      · exact .inl ⟨rfl, rfl⟩
      · exact .inr ⟨f, F, rfl, rfl, hf⟩
    · rw [h1, h2]
      exact .inr ⟨f', F', rfl, rfl, h3⟩
theorem Ents2.find {r : Nat} {w : World} {l t} (h : Ents2 r w l t) (op : ByteArray) : (l.lookup op = none ∧ t.lookup op = none) ∨ ∃ f F, l.lookup op = some f ∧ t.lookup op = some F ∧ At2 f r w F := by
  induction h with
  | nil => exact .inl ⟨rfl, rfl⟩
  | @snoc l t s f F _ hf ih =>
    rw [lookup_snoc, lookup_snoc]
    rcases ih with ⟨h1, h2⟩ | ⟨f', F', h1, h2, h3⟩
    · rw [h1, h2]
      cases hs : op == s
      · exact .inl ⟨rfl, rfl⟩
      · exact .inr ⟨f, F, rfl, rfl, hf⟩
    · rw [h1, h2]
      exact .inr ⟨f', F', rfl, rfl, h3⟩
/-- A map in the making. -/
structure Mk1 (w0 : World) (r : Nat) (l : List (ByteArray × Value)) (t : List (ByteArray × (V → V))) (w : World) : Prop where
  m : HM w r l
  e : Ents1 r w l t
  b : Below w0.heap.size w0 w
  h : w0.heap.size ≤ r
structure Mk2 (w0 : World) (r : Nat) (l : List (ByteArray × Value)) (t : List (ByteArray × (V → V → V))) (w : World) : Prop where
  m : HM w r l
  e : Ents2 r w l t
  b : Below w0.heap.size w0 w
  h : w0.heap.size ≤ r
theorem Mk1.lt {w0 w : World} {r l t} (h : Mk1 w0 r l t w) : r < w.heap.size := (Array.getElem?_eq_some_iff.1 h.m).1
theorem Mk2.lt {w0 w : World} {r l t} (h : Mk2 w0 r l t w) : r < w.heap.size := (Array.getElem?_eq_some_iff.1 h.m).1
theorem Mk1.below {w0 w w' : World} {r l t} (h : Mk1 w0 r l t w) (hb : Below w.heap.size w w') : Mk1 w0 r l t w' := ⟨h.m.below hb, h.e.keeps (.of_below hb), h.b.trans (hb.mono h.b.size), h.h⟩
theorem Mk2.below {w0 w w' : World} {r l t} (h : Mk2 w0 r l t w) (hb : Below w.heap.size w w') : Mk2 w0 r l t w' := ⟨h.m.below hb, h.e.keeps (.of_below hb), h.b.trans (hb.mono h.b.size), h.h⟩
theorem Mk1.more {w0 w w' : World} {r l t s f F} (h : Mk1 w0 r l t w) (hf : At1 f r w F) (hm : HM w' r (l ++ [(s, f)])) (hb : Below w0.heap.size w0 w') (hk : Keeps r w w') : Mk1 w0 r (l ++ [(s, f)]) (t ++ [(s, F)]) w' := ⟨hm, .snoc (h.e.keeps hk) (hf.keeps hk), hb, h.h⟩
theorem Mk2.more {w0 w w' : World} {r l t s f F} (h : Mk2 w0 r l t w) (hf : At2 f r w F) (hm : HM w' r (l ++ [(s, f)])) (hb : Below w0.heap.size w0 w') (hk : Keeps r w w') : Mk2 w0 r (l ++ [(s, f)]) (t ++ [(s, F)]) w' := ⟨hm, .snoc (h.e.keeps hk) (hf.keeps hk), hb, h.h⟩
def tab1 : List (ByteArray × (V → V)) := [(⟨#[45]⟩, vPlain (oneI 53)), (⟨#[97, 98, 115]⟩, vPlain (oneI 54)), (⟨#[102, 108, 111, 111, 114]⟩, vFloor), (⟨#[33]⟩, vNot), (⟨#[105, 115, 95, 110, 117, 108, 108]⟩, vKind [2]), (⟨#[105, 115, 95, 110, 97, 110]⟩, vKind [3]), (⟨#[105, 115, 95, 105, 110, 102]⟩, vKind [4, 5]), (⟨#[105, 115, 95, 110, 117, 109, 98, 101, 114]⟩, vKind [1])]
def tab2 : List (ByteArray × (V → V → V)) := [(⟨#[43]⟩, vNumbers (twoP 60)), (⟨#[45]⟩, vNumbers (twoP 61)), (⟨#[42]⟩, vNumbers (twoP 64)), (⟨#[47]⟩, vNumbers (twoP 65)), (⟨#[61, 61]⟩, vOrder false (twoB 67)), (⟨#[33, 61]⟩, vOrder true (twoB 68)), (⟨#[60]⟩, vOrder false (twoB 69)), (⟨#[60, 61]⟩, vOrder false (twoB 70)), (⟨#[62]⟩, vOrder false (twoB 71)), (⟨#[62, 61]⟩, vOrder false (twoB 72)), (⟨#[38, 38]⟩, vAnd), (⟨#[124, 124]⟩, vOr)]
set_option maxHeartbeats 8000000 in
set_option maxRecDepth 100000 in
theorem ones_calls (w : World) : Calls Tryz.prog 37 #[] w fun e w' => ∃ r l, e = .returned (.map (some r)) ∧ Mk1 w r l tab1 w' := by
  have hut := Tryz.underlying48
  have hus := Tryz.underlying9
  have hmm := @Go.RowKit.run_makeMap Tryz.prog
  have MK := Aside0.mk (show Mk1 w w.heap.size [] [] (w.alloc (.map #[] 0)) from ⟨by exact blk_new w _, .nil, below_one w _, Nat.le_refl _⟩)
  go_enter Tryz.func37, Tryz.ntmps37
  go_wp2_with (first
    | (go_at_call 52; refine (plain_calls _ (oneI _) (oneI_is (by decide)) _ _ MK.out.lt).mono ?_; rintro e w1 ⟨f, rfl, hf, hb⟩; have MK := Aside0.mk (MK.out.below hb); have HF := Aside0.mk hf; clear hf hb)
    | (go_at_call 58; refine (kind_one _ _ _ MK.out.lt).mono ?_; rintro e w1 ⟨f, rfl, hf, hb⟩; have MK := Aside0.mk (MK.out.below hb); have HF := Aside0.mk hf; clear hf hb)
    | (go_at_call 58; refine (kind_two _ _ _ _ MK.out.lt).mono ?_; rintro e w1 ⟨f, rfl, hf, hb⟩; have MK := Aside0.mk (MK.out.below hb); have HF := Aside0.mk hf; clear hf hb)
    | ((with_reducible refine gate_ (.insert 48 (.tmp 1) (.const (.string ⟨#[45]⟩)) _) rfl ?_); refine wpList_insertK ⟨#[45]⟩ rfl rfl rfl hut hus _ rfl rfl MK.out.m (by first | rfl | decide) MK.out.h MK.out.b ?_; intro w1 hm hb hk; have MK := Aside0.mk (MK.out.more HF.out hm hb hk); clear hm hb hk)
    | ((with_reducible refine gate_ (.insert 48 (.tmp 1) (.const (.string ⟨#[97, 98, 115]⟩)) _) rfl ?_); refine wpList_insertK ⟨#[97, 98, 115]⟩ rfl rfl rfl hut hus _ rfl rfl MK.out.m (by first | rfl | decide) MK.out.h MK.out.b ?_; intro w1 hm hb hk; have MK := Aside0.mk (MK.out.more HF.out hm hb hk); clear hm hb hk)
    | ((with_reducible refine gate_ (.insert 48 (.tmp 1) (.const (.string ⟨#[102, 108, 111, 111, 114]⟩)) _) rfl ?_); refine wpList_insertK ⟨#[102, 108, 111, 111, 114]⟩ rfl rfl rfl hut hus _ rfl rfl MK.out.m (by first | rfl | decide) MK.out.h MK.out.b ?_; intro w1 hm hb hk; have MK := Aside0.mk (MK.out.more (is1_ones3 _ _) hm hb hk); clear hm hb hk)
    | ((with_reducible refine gate_ (.insert 48 (.tmp 1) (.const (.string ⟨#[33]⟩)) _) rfl ?_); refine wpList_insertK ⟨#[33]⟩ rfl rfl rfl hut hus _ rfl rfl MK.out.m (by first | rfl | decide) MK.out.h MK.out.b ?_; intro w1 hm hb hk; have MK := Aside0.mk (MK.out.more (is1_ones4 _ _) hm hb hk); clear hm hb hk)
    | ((with_reducible refine gate_ (.insert 48 (.tmp 1) (.const (.string ⟨#[105, 115, 95, 110, 117, 108, 108]⟩)) _) rfl ?_); refine wpList_insertK ⟨#[105, 115, 95, 110, 117, 108, 108]⟩ rfl rfl rfl hut hus _ rfl rfl MK.out.m (by first | rfl | decide) MK.out.h MK.out.b ?_; intro w1 hm hb hk; have MK := Aside0.mk (MK.out.more HF.out hm hb hk); clear hm hb hk)
    | ((with_reducible refine gate_ (.insert 48 (.tmp 1) (.const (.string ⟨#[105, 115, 95, 110, 97, 110]⟩)) _) rfl ?_); refine wpList_insertK ⟨#[105, 115, 95, 110, 97, 110]⟩ rfl rfl rfl hut hus _ rfl rfl MK.out.m (by first | rfl | decide) MK.out.h MK.out.b ?_; intro w1 hm hb hk; have MK := Aside0.mk (MK.out.more HF.out hm hb hk); clear hm hb hk)
    | ((with_reducible refine gate_ (.insert 48 (.tmp 1) (.const (.string ⟨#[105, 115, 95, 105, 110, 102]⟩)) _) rfl ?_); refine wpList_insertK ⟨#[105, 115, 95, 105, 110, 102]⟩ rfl rfl rfl hut hus _ rfl rfl MK.out.m (by first | rfl | decide) MK.out.h MK.out.b ?_; intro w1 hm hb hk; have MK := Aside0.mk (MK.out.more HF.out hm hb hk); clear hm hb hk)
    | ((with_reducible refine gate_ (.insert 48 (.tmp 1) (.const (.string ⟨#[105, 115, 95, 110, 117, 109, 98, 101, 114]⟩)) _) rfl ?_); refine wpList_insertK ⟨#[105, 115, 95, 110, 117, 109, 98, 101, 114]⟩ rfl rfl rfl hut hus _ rfl rfl MK.out.m (by first | rfl | decide) MK.out.h MK.out.b ?_; intro w1 hm hb hk; have MK := Aside0.mk (MK.out.more HF.out hm hb hk); clear hm hb hk))
  go_ret
  exact ⟨_, _, rfl, MK.out⟩
set_option maxHeartbeats 8000000 in
set_option maxRecDepth 100000 in
theorem twos_calls (w : World) : Calls Tryz.prog 38 #[] w fun e w' => ∃ r l, e = .returned (.map (some r)) ∧ Mk2 w r l tab2 w' := by
  have hut := Tryz.underlying52
  have hus := Tryz.underlying9
  have hmm := @Go.RowKit.run_makeMap Tryz.prog
  have MK := Aside0.mk (show Mk2 w w.heap.size [] [] (w.alloc (.map #[] 0)) from ⟨by exact blk_new w _, .nil, below_one w _, Nat.le_refl _⟩)
  go_enter Tryz.func38, Tryz.ntmps38
  go_wp2_with (first
    | (go_at_call 59; refine (numbers_calls _ (twoP _) (twoP_is (by decide)) _ _ MK.out.lt).mono ?_; rintro e w1 ⟨f, rfl, hf, hb⟩; have MK := Aside0.mk (MK.out.below hb); have HF := Aside0.mk hf; clear hf hb)
    | (go_at_call 66; refine (order_calls _ _ (twoB _) (twoB_is (by decide)) _ _ MK.out.lt).mono ?_; rintro e w1 ⟨f, rfl, hf, hb⟩; have MK := Aside0.mk (MK.out.below hb); have HF := Aside0.mk hf; clear hf hb)
    | ((with_reducible refine gate_ (.insert 52 (.tmp 1) (.const (.string ⟨#[43]⟩)) _) rfl ?_); refine wpList_insertK ⟨#[43]⟩ rfl rfl rfl hut hus _ rfl rfl MK.out.m (by first | rfl | decide) MK.out.h MK.out.b ?_; intro w1 hm hb hk; have MK := Aside0.mk (MK.out.more HF.out hm hb hk); clear hm hb hk)
    | ((with_reducible refine gate_ (.insert 52 (.tmp 1) (.const (.string ⟨#[45]⟩)) _) rfl ?_); refine wpList_insertK ⟨#[45]⟩ rfl rfl rfl hut hus _ rfl rfl MK.out.m (by first | rfl | decide) MK.out.h MK.out.b ?_; intro w1 hm hb hk; have MK := Aside0.mk (MK.out.more HF.out hm hb hk); clear hm hb hk)
    | ((with_reducible refine gate_ (.insert 52 (.tmp 1) (.const (.string ⟨#[42]⟩)) _) rfl ?_); refine wpList_insertK ⟨#[42]⟩ rfl rfl rfl hut hus _ rfl rfl MK.out.m (by first | rfl | decide) MK.out.h MK.out.b ?_; intro w1 hm hb hk; have MK := Aside0.mk (MK.out.more HF.out hm hb hk); clear hm hb hk)
    | ((with_reducible refine gate_ (.insert 52 (.tmp 1) (.const (.string ⟨#[47]⟩)) _) rfl ?_); refine wpList_insertK ⟨#[47]⟩ rfl rfl rfl hut hus _ rfl rfl MK.out.m (by first | rfl | decide) MK.out.h MK.out.b ?_; intro w1 hm hb hk; have MK := Aside0.mk (MK.out.more HF.out hm hb hk); clear hm hb hk)
    | ((with_reducible refine gate_ (.insert 52 (.tmp 1) (.const (.string ⟨#[61, 61]⟩)) _) rfl ?_); refine wpList_insertK ⟨#[61, 61]⟩ rfl rfl rfl hut hus _ rfl rfl MK.out.m (by first | rfl | decide) MK.out.h MK.out.b ?_; intro w1 hm hb hk; have MK := Aside0.mk (MK.out.more HF.out hm hb hk); clear hm hb hk)
    | ((with_reducible refine gate_ (.insert 52 (.tmp 1) (.const (.string ⟨#[33, 61]⟩)) _) rfl ?_); refine wpList_insertK ⟨#[33, 61]⟩ rfl rfl rfl hut hus _ rfl rfl MK.out.m (by first | rfl | decide) MK.out.h MK.out.b ?_; intro w1 hm hb hk; have MK := Aside0.mk (MK.out.more HF.out hm hb hk); clear hm hb hk)
    | ((with_reducible refine gate_ (.insert 52 (.tmp 1) (.const (.string ⟨#[60]⟩)) _) rfl ?_); refine wpList_insertK ⟨#[60]⟩ rfl rfl rfl hut hus _ rfl rfl MK.out.m (by first | rfl | decide) MK.out.h MK.out.b ?_; intro w1 hm hb hk; have MK := Aside0.mk (MK.out.more HF.out hm hb hk); clear hm hb hk)
    | ((with_reducible refine gate_ (.insert 52 (.tmp 1) (.const (.string ⟨#[60, 61]⟩)) _) rfl ?_); refine wpList_insertK ⟨#[60, 61]⟩ rfl rfl rfl hut hus _ rfl rfl MK.out.m (by first | rfl | decide) MK.out.h MK.out.b ?_; intro w1 hm hb hk; have MK := Aside0.mk (MK.out.more HF.out hm hb hk); clear hm hb hk)
    | ((with_reducible refine gate_ (.insert 52 (.tmp 1) (.const (.string ⟨#[62]⟩)) _) rfl ?_); refine wpList_insertK ⟨#[62]⟩ rfl rfl rfl hut hus _ rfl rfl MK.out.m (by first | rfl | decide) MK.out.h MK.out.b ?_; intro w1 hm hb hk; have MK := Aside0.mk (MK.out.more HF.out hm hb hk); clear hm hb hk)
    | ((with_reducible refine gate_ (.insert 52 (.tmp 1) (.const (.string ⟨#[62, 61]⟩)) _) rfl ?_); refine wpList_insertK ⟨#[62, 61]⟩ rfl rfl rfl hut hus _ rfl rfl MK.out.m (by first | rfl | decide) MK.out.h MK.out.b ?_; intro w1 hm hb hk; have MK := Aside0.mk (MK.out.more HF.out hm hb hk); clear hm hb hk)
    | ((with_reducible refine gate_ (.insert 52 (.tmp 1) (.const (.string ⟨#[38, 38]⟩)) _) rfl ?_); refine wpList_insertK ⟨#[38, 38]⟩ rfl rfl rfl hut hus _ rfl rfl MK.out.m (by first | rfl | decide) MK.out.h MK.out.b ?_; intro w1 hm hb hk; have MK := Aside0.mk (MK.out.more (is2_and _ _) hm hb hk); clear hm hb hk)
    | ((with_reducible refine gate_ (.insert 52 (.tmp 1) (.const (.string ⟨#[124, 124]⟩)) _) rfl ?_); refine wpList_insertK ⟨#[124, 124]⟩ rfl rfl rfl hut hus _ rfl rfl MK.out.m (by first | rfl | decide) MK.out.h MK.out.b ?_; intro w1 hm hb hk; have MK := Aside0.mk (MK.out.more (is2_or _ _) hm hb hk); clear hm hb hk))
  go_ret
  exact ⟨_, _, rfl, MK.out⟩
end Go.Proofs.YtcmiehddjgfjaaaGreatDoor.A
namespace Go.Proofs.YtcmiehddjgfjaaaGreatDoor.A
open Go.RowKit Go.Proofs.YtcmiehddjgfjaaaGreatDoorW.PrintWords Go.Proofs.YtcmiehddjgfjaaaGreatDoorW.PrintLast Go.Proofs.YtcmiehddjgfjaaaGreatDoorW.PrintMore Go.Proofs.YtcmiehddjgfjaaaGreatDoor.V
set_option linter.unusedVariables false
set_option linter.unusedSimpArgs false
def vDo (op : ByteArray) (l : List V) : V × Int :=
  if l.any (fun x => !decide (isV x)) = true then ((0, 0), 80) else
  match l with
  | [a] => (match tab1.lookup op with | some F => (F a, 0) | none => ((0, 0), 2))
  | [a, b] => (match tab2.lookup op with | some F => (if a.1 = 2 ∨ b.1 = 2 then ((2, 0), 0) else (F a b, 0)) | none => ((0, 0), 2))
  | _ => ((0, 0), 2)
theorem any_sv (l : List S25) : (l.map sv).any (fun x => !decide (isV x)) = l.any badV := by rw [List.any_map]; rfl
theorem Ents1.find_none {r : Nat} {w : World} {l t} (h : Ents1 r w l t) {op : ByteArray} (ht : t.lookup op = none) : l.lookup op = none := by
  rcases h.find op with ⟨h1, _⟩ | ⟨f, F, _, h2, _⟩
  · exact h1
  · rw [ht] at h2; exact absurd h2 (by simp)
theorem Ents1.find_some {r : Nat} {w : World} {l t} (h : Ents1 r w l t) {op : ByteArray} {F : V → V} (ht : t.lookup op = some F) : ∃ f, l.lookup op = some f ∧ At1 f r w F := by
  rcases h.find op with ⟨_, h2⟩ | ⟨f, F', h1, h2, h3⟩
  · rw [ht] at h2; exact absurd h2 (by simp)
  · rw [ht] at h2; injection h2 with h2; subst h2; exact ⟨f, h1, h3⟩
theorem Ents2.find_none {r : Nat} {w : World} {l t} (h : Ents2 r w l t) {op : ByteArray} (ht : t.lookup op = none) : l.lookup op = none := by
  rcases h.find op with ⟨h1, _⟩ | ⟨f, F, _, h2, _⟩
  · exact h1
  · rw [ht] at h2; exact absurd h2 (by simp)
theorem Ents2.find_some {r : Nat} {w : World} {l t} (h : Ents2 r w l t) {op : ByteArray} {F : V → V → V} (ht : t.lookup op = some F) : ∃ f, l.lookup op = some f ∧ At2 f r w F := by
  rcases h.find op with ⟨_, h2⟩ | ⟨f, F', h1, h2, h3⟩
  · rw [ht] at h2; exact absurd h2 (by simp)
  · rw [ht] at h2; injection h2 with h2; subst h2; exact ⟨f, h1, h3⟩
set_option maxRecDepth 100000 in
theorem null_calls (w : World) : Calls Tryz.prog 23 #[] w fun e w' => e = .returned (vv (2, 0)) ∧ Below w.heap.size w w' := by
  go_enter Tryz.func23, Tryz.ntmps23
  go_wp2
  refine bodyPost_ret (v := vv (2, 0)) (by simp [results, Tryz.results23, go_sem]) rfl ⟨rfl, ?_⟩
  repeat (first | exact Below.refl _ _ | (refine Below.alloc ?_ (by simp) _) | (refine Below.setCell ?_ (by simp) _))
section
variable (a0 : ByteArray) (c1 : Nat) (w : World)
set_option maxHeartbeats 4000000 in
set_option maxRecDepth 100000 in
theorem do_bad (A1 : Option Addr) (n : Nat) (hC : ∀ w1, Below w.heap.size w w1 → Calls Tryz.prog 17 #[.slice A1 n c1] w1 fun e w' => e = .returned (.int .i64 80) ∧ Below w1.heap.size w1 w') :
    Calls Tryz.prog 11 #[.string a0, .slice A1 n c1] w fun e w' => e = .returned (.tuple #[vv (0, 0), .int .i64 80]) ∧ Below w.heap.size w w' := by
  have hb0 : Below w.heap.size w (w.alloc (.cells #[.int .i64 0, .int .i64 0] 25)) := below_one w _
  have r0 : (w.alloc (.cells #[.int .i64 0, .int .i64 0] 25)).heap[w.heap.size]? = some (.cells #[.int .i64 0, .int .i64 0] 25 (0, 0)) := blk_new w _
  have m0 := cell_of_row _ _ 0 _ _ _ r0
  have m1 := cell_of_row _ _ 1 _ _ _ r0
  have z0 := blk_frozen r0 0
  have z1 := blk_frozen r0 1
  simp only [List.getElem?_toArray, List.getElem?_cons_zero, List.getElem?_cons_succ] at m0 m1
  have HB := Aside0.mk hb0
  have HC := Aside0.mk (hC _ hb0)
  clear hC
  go_enter Tryz.func11, Tryz.ntmps11
  go_wp2_with fail
  generalize w.alloc (.cells #[.int .i64 0, .int .i64 0] 25) = W1 at HB HC m0 m1 z0 z1 ⊢
  clear hb0 r0
  go_wp2_with (go_at_call 17; refine HC.out.mono ?_; rintro e w1 ⟨rfl, hb1⟩; have m0_ := m0; have m1_ := m1; have m0 := pw_cell_below hb1 m0_; have m1 := pw_cell_below hb1 m1_; have z0 := fz_below hb1 m0_ z0; have z1 := fz_below hb1 m1_ z1; clear m0_ m1_; have HB := Aside0.mk (HB.out.trans (hb1.mono HB.out.size)); clear hb1)
  exact bodyPost_ret (v := .tuple #[vv (0, 0), .int .i64 80]) (by simp [results, Tryz.results11, go_sem, m0, m1]) rfl ⟨rfl, (HB.out.setCell (by simp) _).setCell (by simp) _⟩
set_option maxHeartbeats 4000000 in
set_option maxRecDepth 100000 in
theorem do_len (A1 : Option Addr) (n : Nat) (h1 : n ≠ 1) (h2 : n ≠ 2) (hC : ∀ w1, Below w.heap.size w w1 → Calls Tryz.prog 17 #[.slice A1 n c1] w1 fun e w' => e = .returned (.int .i64 0) ∧ Below w1.heap.size w1 w') :
    Calls Tryz.prog 11 #[.string a0, .slice A1 n c1] w fun e w' => e = .returned (.tuple #[vv (0, 0), .int .i64 2]) ∧ Below w.heap.size w w' := by
  have n1 : ((n : Int) == 1) = false := beq_eq_false_iff_ne.2 (by omega)
  have n2 : ((n : Int) == 2) = false := beq_eq_false_iff_ne.2 (by omega)
  clear h1 h2
  have hb0 : Below w.heap.size w (w.alloc (.cells #[.int .i64 0, .int .i64 0] 25)) := below_one w _
  have r0 : (w.alloc (.cells #[.int .i64 0, .int .i64 0] 25)).heap[w.heap.size]? = some (.cells #[.int .i64 0, .int .i64 0] 25 (0, 0)) := blk_new w _
  have m0 := cell_of_row _ _ 0 _ _ _ r0
  have m1 := cell_of_row _ _ 1 _ _ _ r0
  have z0 := blk_frozen r0 0
  have z1 := blk_frozen r0 1
  simp only [List.getElem?_toArray, List.getElem?_cons_zero, List.getElem?_cons_succ] at m0 m1
  have HB := Aside0.mk hb0
  have HC := Aside0.mk (hC _ hb0)
  clear hC
  go_enter Tryz.func11, Tryz.ntmps11
  go_wp2_with fail
  generalize w.alloc (.cells #[.int .i64 0, .int .i64 0] 25) = W1 at HB HC m0 m1 z0 z1 ⊢
  clear hb0 r0
  go_wp2_with (go_at_call 17; refine HC.out.mono ?_; rintro e w1 ⟨rfl, hb1⟩; have m0_ := m0; have m1_ := m1; have m0 := pw_cell_below hb1 m0_; have m1 := pw_cell_below hb1 m1_; have z0 := fz_below hb1 m0_ z0; have z1 := fz_below hb1 m1_ z1; clear m0_ m1_; have HB := Aside0.mk (HB.out.trans (hb1.mono HB.out.size)); clear hb1)
  exact bodyPost_ret (v := .tuple #[vv (0, 0), .int .i64 2]) (by simp [results, Tryz.results11, go_sem, m0, m1]) rfl ⟨rfl, (HB.out.setCell (by simp) _).setCell (by simp) _⟩
set_option maxHeartbeats 4000000 in
set_option maxRecDepth 100000 in
theorem do_one_none (A : Addr) (x0 x1 : Int) (ht : tab1.lookup a0 = none) (hp0 : w.cell? A = some (.int .i64 x0)) (hp1 : w.cell? ⟨A.block, A.off + 1, none⟩ = some (.int .i64 x1)) (hC : ∀ w1, Below w.heap.size w w1 → Calls Tryz.prog 17 #[.slice (some A) 1 c1] w1 fun e w' => e = .returned (.int .i64 0) ∧ Below w1.heap.size w1 w') :
    Calls Tryz.prog 11 #[.string a0, .slice (some A) 1 c1] w fun e w' => e = .returned (.tuple #[vv (0, 0), .int .i64 2]) ∧ Below w.heap.size w w' := by
  have HT := Aside0.mk ht
  clear ht
  have hb0 : Below w.heap.size w (w.alloc (.cells #[.int .i64 0, .int .i64 0] 25)) := below_one w _
  have r0 : (w.alloc (.cells #[.int .i64 0, .int .i64 0] 25)).heap[w.heap.size]? = some (.cells #[.int .i64 0, .int .i64 0] 25 (0, 0)) := blk_new w _
  have m0 := cell_of_row _ _ 0 _ _ _ r0
  have m1 := cell_of_row _ _ 1 _ _ _ r0
  have z0 := blk_frozen r0 0
  have z1 := blk_frozen r0 1
  simp only [List.getElem?_toArray, List.getElem?_cons_zero, List.getElem?_cons_succ] at m0 m1
  have HB := Aside0.mk hb0
  have p0 := pw_cell_below hb0 hp0
  have p1 := pw_cell_below hb0 hp1
  have HC := Aside0.mk (hC _ hb0)
  clear hC hp0 hp1
  go_enter Tryz.func11, Tryz.ntmps11
  go_wp2_with fail
  generalize w.alloc (.cells #[.int .i64 0, .int .i64 0] 25) = W1 at HB HC p0 p1 m0 m1 z0 z1 ⊢
  clear hb0 r0
  go_wp2_with (first
    | (go_at_call 17; refine HC.out.mono ?_; rintro e w1 ⟨rfl, hb1⟩; have p0 := pw_cell_below hb1 p0; have p1 := pw_cell_below hb1 p1; have m0_ := m0; have m1_ := m1; have m0 := pw_cell_below hb1 m0_; have m1 := pw_cell_below hb1 m1_; have z0 := fz_below hb1 m0_ z0; have z1 := fz_below hb1 m1_ z1; clear m0_ m1_; have HB := Aside0.mk (HB.out.trans (hb1.mono HB.out.size)); clear hb1)
    | (go_at_call 37; refine (ones_calls _).mono ?_; rintro e w1 ⟨r, l, rfl, mk⟩; have hb1 := mk.b; have p0 := pw_cell_below hb1 p0; have p1 := pw_cell_below hb1 p1; have hlk := run_find (Tryz.underlying48) (Tryz.underlying9) mk.m a0 .nilFunc (Tryz.zeroValue46 _); rw [mk.e.find_none HT.out] at hlk; clear mk; have m0_ := m0; have m1_ := m1; have m0 := pw_cell_below hb1 m0_; have m1 := pw_cell_below hb1 m1_; have z0 := fz_below hb1 m0_ z0; have z1 := fz_below hb1 m1_ z1; clear m0_ m1_; have HB := Aside0.mk (HB.out.trans (hb1.mono HB.out.size)); clear hb1))
  exact bodyPost_ret (v := .tuple #[vv (0, 0), .int .i64 2]) (by simp [results, Tryz.results11, go_sem, m0, m1]) rfl ⟨rfl, (HB.out.setCell (by simp) _).setCell (by simp) _⟩
set_option maxHeartbeats 4000000 in
set_option maxRecDepth 100000 in
theorem do_one (A : Addr) (x0 x1 : Int) (F : V → V) (ht : tab1.lookup a0 = some F) (r1 r2 : Int) (hF : F (x0, x1) = (r1, r2)) (hv : isV (x0, x1)) (hp0 : w.cell? A = some (.int .i64 x0)) (hp1 : w.cell? ⟨A.block, A.off + 1, none⟩ = some (.int .i64 x1)) (hC : ∀ w1, Below w.heap.size w w1 → Calls Tryz.prog 17 #[.slice (some A) 1 c1] w1 fun e w' => e = .returned (.int .i64 0) ∧ Below w1.heap.size w1 w') :
    Calls Tryz.prog 11 #[.string a0, .slice (some A) 1 c1] w fun e w' => e = .returned (.tuple #[vv (r1, r2), .int .i64 0]) ∧ Below w.heap.size w w' := by
  have HT := Aside0.mk ht
  clear ht
  have HF := Aside0.mk hF
  have HV := Aside0.mk hv
  clear hF hv
  have hb0 : Below w.heap.size w (w.alloc (.cells #[.int .i64 0, .int .i64 0] 25)) := below_one w _
  have r0 : (w.alloc (.cells #[.int .i64 0, .int .i64 0] 25)).heap[w.heap.size]? = some (.cells #[.int .i64 0, .int .i64 0] 25 (0, 0)) := blk_new w _
  have m0 := cell_of_row _ _ 0 _ _ _ r0
  have m1 := cell_of_row _ _ 1 _ _ _ r0
  have z0 := blk_frozen r0 0
  have z1 := blk_frozen r0 1
  simp only [List.getElem?_toArray, List.getElem?_cons_zero, List.getElem?_cons_succ] at m0 m1
  have HB := Aside0.mk hb0
  have p0 := pw_cell_below hb0 hp0
  have p1 := pw_cell_below hb0 hp1
  have HC := Aside0.mk (hC _ hb0)
  clear hC hp0 hp1
  go_enter Tryz.func11, Tryz.ntmps11
  go_wp2_with fail
  generalize w.alloc (.cells #[.int .i64 0, .int .i64 0] 25) = W1 at HB HC p0 p1 m0 m1 z0 z1 ⊢
  clear hb0 r0
  go_wp2_with (first
    | (go_at_call 17; refine HC.out.mono ?_; rintro e w1 ⟨rfl, hb1⟩; have p0 := pw_cell_below hb1 p0; have p1 := pw_cell_below hb1 p1; have m0_ := m0; have m1_ := m1; have m0 := pw_cell_below hb1 m0_; have m1 := pw_cell_below hb1 m1_; have z0 := fz_below hb1 m0_ z0; have z1 := fz_below hb1 m1_ z1; clear m0_ m1_; have HB := Aside0.mk (HB.out.trans (hb1.mono HB.out.size)); clear hb1)
    | (first
      | (go_at_call 37; refine (ones_calls _).mono ?_; rintro e w1 ⟨r, l, rfl, mk⟩; have hb1 := mk.b; have p0 := pw_cell_below hb1 p0; have p1 := pw_cell_below hb1 p1; obtain ⟨f, hf1, g, cb, rfl, eg, hf2⟩ := mk.e.find_some HT.out; have hlk := run_find (Tryz.underlying48) (Tryz.underlying9) mk.m a0 .nilFunc (Tryz.zeroValue46 _); rw [hf1] at hlk; have HG := Aside0.mk (hf2 w1 (Keeps.refl _ _) (x0, x1) HV.out); clear mk hf1 hf2; simp only at hlk; have m0_ := m0; have m1_ := m1; have m0 := pw_cell_below hb1 m0_; have m1 := pw_cell_below hb1 m1_; have z0 := fz_below hb1 m0_ z0; have z1 := fz_below hb1 m1_ z1; clear m0_ m1_; have HB := Aside0.mk (HB.out.trans (hb1.mono HB.out.size)); clear hb1; rw [HF.out] at HG)
      | (go_at_fn g; refine HG.out.mono ?_; rintro e w1 ⟨rfl, hb1⟩; have m0_ := m0; have m1_ := m1; have m0 := pw_cell_below hb1 m0_; have m1 := pw_cell_below hb1 m1_; have z0 := fz_below hb1 m0_ z0; have z1 := fz_below hb1 m1_ z1; clear m0_ m1_; have HB := Aside0.mk (HB.out.trans (hb1.mono HB.out.size)); clear hb1)))
  exact bodyPost_ret (v := .tuple #[vv (r1, r2), .int .i64 0]) (by simp [results, Tryz.results11, go_sem, m0, m1]) rfl ⟨rfl, (HB.out.setCell (by simp) _).setCell (by simp) _⟩
set_option maxHeartbeats 8000000 in
set_option maxRecDepth 100000 in
theorem do_two_none (A : Addr) (x0 x1 y0 y1 : Int) (ht : tab2.lookup a0 = none) (hp0 : w.cell? A = some (.int .i64 x0)) (hp1 : w.cell? ⟨A.block, A.off + 1, none⟩ = some (.int .i64 x1)) (hq0 : w.cell? ⟨A.block, A.off + 2, none⟩ = some (.int .i64 y0)) (hq1 : w.cell? ⟨A.block, A.off + 2 + 1, none⟩ = some (.int .i64 y1)) (hC : ∀ w1, Below w.heap.size w w1 → Calls Tryz.prog 17 #[.slice (some A) 2 c1] w1 fun e w' => e = .returned (.int .i64 0) ∧ Below w1.heap.size w1 w') :
    Calls Tryz.prog 11 #[.string a0, .slice (some A) 2 c1] w fun e w' => e = .returned (.tuple #[vv (0, 0), .int .i64 2]) ∧ Below w.heap.size w w' := by
  have HT := Aside0.mk ht
  clear ht
  have hb0 : Below w.heap.size w (w.alloc (.cells #[.int .i64 0, .int .i64 0] 25)) := below_one w _
  have r0 : (w.alloc (.cells #[.int .i64 0, .int .i64 0] 25)).heap[w.heap.size]? = some (.cells #[.int .i64 0, .int .i64 0] 25 (0, 0)) := blk_new w _
  have m0 := cell_of_row _ _ 0 _ _ _ r0
  have m1 := cell_of_row _ _ 1 _ _ _ r0
  have z0 := blk_frozen r0 0
  have z1 := blk_frozen r0 1
  simp only [List.getElem?_toArray, List.getElem?_cons_zero, List.getElem?_cons_succ] at m0 m1
  have HB := Aside0.mk hb0
  have p0 := pw_cell_below hb0 hp0
  have p1 := pw_cell_below hb0 hp1
  have q0 := pw_cell_below hb0 hq0
  have q1 := pw_cell_below hb0 hq1
  have q2 : (w.alloc (.cells #[.int .i64 0, .int .i64 0] 25)).cell? ⟨A.block, A.off + 3, none⟩ = some (.int .i64 y1) := q1
  have HC := Aside0.mk (hC _ hb0)
  clear hC hp0 hp1 hq0 hq1
  go_enter Tryz.func11, Tryz.ntmps11
  go_wp2_with fail
  generalize w.alloc (.cells #[.int .i64 0, .int .i64 0] 25) = W1 at HB HC p0 p1 q0 q1 q2 m0 m1 z0 z1 ⊢
  clear hb0 r0
  go_wp2_with (first
    | (go_at_call 17; refine HC.out.mono ?_; rintro e w1 ⟨rfl, hb1⟩; have p0 := pw_cell_below hb1 p0; have p1 := pw_cell_below hb1 p1; have q0 := pw_cell_below hb1 q0; have q1 := pw_cell_below hb1 q1; have q2 := pw_cell_below hb1 q2; have m0_ := m0; have m1_ := m1; have m0 := pw_cell_below hb1 m0_; have m1 := pw_cell_below hb1 m1_; have z0 := fz_below hb1 m0_ z0; have z1 := fz_below hb1 m1_ z1; clear m0_ m1_; have HB := Aside0.mk (HB.out.trans (hb1.mono HB.out.size)); clear hb1)
    | (go_at_call 38; refine (twos_calls _).mono ?_; rintro e w1 ⟨r, l, rfl, mk⟩; have hb1 := mk.b; have p0 := pw_cell_below hb1 p0; have p1 := pw_cell_below hb1 p1; have q0 := pw_cell_below hb1 q0; have q1 := pw_cell_below hb1 q1; have q2 := pw_cell_below hb1 q2; have hlk := run_find (Tryz.underlying52) (Tryz.underlying9) mk.m a0 .nilFunc (Tryz.zeroValue50 _); rw [mk.e.find_none HT.out] at hlk; clear mk; have m0_ := m0; have m1_ := m1; have m0 := pw_cell_below hb1 m0_; have m1 := pw_cell_below hb1 m1_; have z0 := fz_below hb1 m0_ z0; have z1 := fz_below hb1 m1_ z1; clear m0_ m1_; have HB := Aside0.mk (HB.out.trans (hb1.mono HB.out.size)); clear hb1))
  exact bodyPost_ret (v := .tuple #[vv (0, 0), .int .i64 2]) (by simp [results, Tryz.results11, go_sem, m0, m1]) rfl ⟨rfl, (HB.out.setCell (by simp) _).setCell (by simp) _⟩
set_option maxHeartbeats 8000000 in
set_option maxRecDepth 100000 in
theorem do_two_null (A : Addr) (x0 x1 y0 y1 : Int) (F : V → V → V) (ht : tab2.lookup a0 = some F) (hn : x0 = 2 ∨ y0 = 2) (hp0 : w.cell? A = some (.int .i64 x0)) (hp1 : w.cell? ⟨A.block, A.off + 1, none⟩ = some (.int .i64 x1)) (hq0 : w.cell? ⟨A.block, A.off + 2, none⟩ = some (.int .i64 y0)) (hq1 : w.cell? ⟨A.block, A.off + 2 + 1, none⟩ = some (.int .i64 y1)) (hC : ∀ w1, Below w.heap.size w w1 → Calls Tryz.prog 17 #[.slice (some A) 2 c1] w1 fun e w' => e = .returned (.int .i64 0) ∧ Below w1.heap.size w1 w') :
    Calls Tryz.prog 11 #[.string a0, .slice (some A) 2 c1] w fun e w' => e = .returned (.tuple #[vv (2, 0), .int .i64 0]) ∧ Below w.heap.size w w' := by
  have HT := Aside0.mk ht
  clear ht
  have hb0 : Below w.heap.size w (w.alloc (.cells #[.int .i64 0, .int .i64 0] 25)) := below_one w _
  have r0 : (w.alloc (.cells #[.int .i64 0, .int .i64 0] 25)).heap[w.heap.size]? = some (.cells #[.int .i64 0, .int .i64 0] 25 (0, 0)) := blk_new w _
  have m0 := cell_of_row _ _ 0 _ _ _ r0
  have m1 := cell_of_row _ _ 1 _ _ _ r0
  have z0 := blk_frozen r0 0
  have z1 := blk_frozen r0 1
  simp only [List.getElem?_toArray, List.getElem?_cons_zero, List.getElem?_cons_succ] at m0 m1
  have HB := Aside0.mk hb0
  have p0 := pw_cell_below hb0 hp0
  have p1 := pw_cell_below hb0 hp1
  have q0 := pw_cell_below hb0 hq0
  have q1 := pw_cell_below hb0 hq1
  have q2 : (w.alloc (.cells #[.int .i64 0, .int .i64 0] 25)).cell? ⟨A.block, A.off + 3, none⟩ = some (.int .i64 y1) := q1
  have HC := Aside0.mk (hC _ hb0)
  clear hC hp0 hp1 hq0 hq1
  have c12 : (x0 = 2) ∨ ((x0 == 2) = false ∧ y0 = 2) := by
    by_cases h : x0 = 2
    · exact .inl h
    · exact .inr ⟨beq_eq_false_iff_ne.2 h, hn.resolve_left h⟩
  clear hn
  rcases c12 with rfl | ⟨c1, rfl⟩
  · go_enter Tryz.func11, Tryz.ntmps11
    go_wp2_with fail
    generalize w.alloc (.cells #[.int .i64 0, .int .i64 0] 25) = W1 at HB HC p0 p1 q0 q1 q2 m0 m1 z0 z1 ⊢
    clear hb0 r0
    go_wp2_with (first
      | (go_at_call 17; refine HC.out.mono ?_; rintro e w1 ⟨rfl, hb1⟩; have p0 := pw_cell_below hb1 p0; have p1 := pw_cell_below hb1 p1; have q0 := pw_cell_below hb1 q0; have q1 := pw_cell_below hb1 q1; have q2 := pw_cell_below hb1 q2; have m0_ := m0; have m1_ := m1; have m0 := pw_cell_below hb1 m0_; have m1 := pw_cell_below hb1 m1_; have z0 := fz_below hb1 m0_ z0; have z1 := fz_below hb1 m1_ z1; clear m0_ m1_; have HB := Aside0.mk (HB.out.trans (hb1.mono HB.out.size)); clear hb1)
      | (go_at_call 38; refine (twos_calls _).mono ?_; rintro e w1 ⟨r, l, rfl, mk⟩; have hb1 := mk.b; have p0 := pw_cell_below hb1 p0; have p1 := pw_cell_below hb1 p1; have q0 := pw_cell_below hb1 q0; have q1 := pw_cell_below hb1 q1; have q2 := pw_cell_below hb1 q2; obtain ⟨f, hf1, g, cb, rfl, eg, hf2⟩ := mk.e.find_some HT.out; have hlk := run_find (Tryz.underlying52) (Tryz.underlying9) mk.m a0 .nilFunc (Tryz.zeroValue50 _); rw [hf1] at hlk; clear mk hf1 hf2; simp only at hlk; have m0_ := m0; have m1_ := m1; have m0 := pw_cell_below hb1 m0_; have m1 := pw_cell_below hb1 m1_; have z0 := fz_below hb1 m0_ z0; have z1 := fz_below hb1 m1_ z1; clear m0_ m1_; have HB := Aside0.mk (HB.out.trans (hb1.mono HB.out.size)); clear hb1)
      | (go_at_call 23; refine (null_calls _).mono ?_; rintro e w1 ⟨rfl, hb1⟩; have m0_ := m0; have m1_ := m1; have m0 := pw_cell_below hb1 m0_; have m1 := pw_cell_below hb1 m1_; have z0 := fz_below hb1 m0_ z0; have z1 := fz_below hb1 m1_ z1; clear m0_ m1_; have HB := Aside0.mk (HB.out.trans (hb1.mono HB.out.size)); clear hb1))
    exact bodyPost_ret (v := .tuple #[vv (2, 0), .int .i64 0]) (by simp [results, Tryz.results11, go_sem, m0, m1]) rfl ⟨rfl, (HB.out.setCell (by simp) _).setCell (by simp) _⟩
  · go_enter Tryz.func11, Tryz.ntmps11
    go_wp2_with fail
    generalize w.alloc (.cells #[.int .i64 0, .int .i64 0] 25) = W1 at HB HC p0 p1 q0 q1 q2 m0 m1 z0 z1 ⊢
    clear hb0 r0
    go_wp2_with (first
      | (go_at_call 17; refine HC.out.mono ?_; rintro e w1 ⟨rfl, hb1⟩; have p0 := pw_cell_below hb1 p0; have p1 := pw_cell_below hb1 p1; have q0 := pw_cell_below hb1 q0; have q1 := pw_cell_below hb1 q1; have q2 := pw_cell_below hb1 q2; have m0_ := m0; have m1_ := m1; have m0 := pw_cell_below hb1 m0_; have m1 := pw_cell_below hb1 m1_; have z0 := fz_below hb1 m0_ z0; have z1 := fz_below hb1 m1_ z1; clear m0_ m1_; have HB := Aside0.mk (HB.out.trans (hb1.mono HB.out.size)); clear hb1)
      | (go_at_call 38; refine (twos_calls _).mono ?_; rintro e w1 ⟨r, l, rfl, mk⟩; have hb1 := mk.b; have p0 := pw_cell_below hb1 p0; have p1 := pw_cell_below hb1 p1; have q0 := pw_cell_below hb1 q0; have q1 := pw_cell_below hb1 q1; have q2 := pw_cell_below hb1 q2; obtain ⟨f, hf1, g, cb, rfl, eg, hf2⟩ := mk.e.find_some HT.out; have hlk := run_find (Tryz.underlying52) (Tryz.underlying9) mk.m a0 .nilFunc (Tryz.zeroValue50 _); rw [hf1] at hlk; clear mk hf1 hf2; simp only at hlk; have m0_ := m0; have m1_ := m1; have m0 := pw_cell_below hb1 m0_; have m1 := pw_cell_below hb1 m1_; have z0 := fz_below hb1 m0_ z0; have z1 := fz_below hb1 m1_ z1; clear m0_ m1_; have HB := Aside0.mk (HB.out.trans (hb1.mono HB.out.size)); clear hb1)
      | (go_at_call 23; refine (null_calls _).mono ?_; rintro e w1 ⟨rfl, hb1⟩; have m0_ := m0; have m1_ := m1; have m0 := pw_cell_below hb1 m0_; have m1 := pw_cell_below hb1 m1_; have z0 := fz_below hb1 m0_ z0; have z1 := fz_below hb1 m1_ z1; clear m0_ m1_; have HB := Aside0.mk (HB.out.trans (hb1.mono HB.out.size)); clear hb1))
    exact bodyPost_ret (v := .tuple #[vv (2, 0), .int .i64 0]) (by simp [results, Tryz.results11, go_sem, m0, m1]) rfl ⟨rfl, (HB.out.setCell (by simp) _).setCell (by simp) _⟩
set_option maxHeartbeats 8000000 in
set_option maxRecDepth 100000 in
theorem do_two (A : Addr) (x0 x1 y0 y1 : Int) (F : V → V → V) (ht : tab2.lookup a0 = some F) (r1 r2 : Int) (hn : ¬ (x0 = 2 ∨ y0 = 2)) (hF : F (x0, x1) (y0, y1) = (r1, r2)) (hv : isV (x0, x1)) (hu : isV (y0, y1)) (hp0 : w.cell? A = some (.int .i64 x0)) (hp1 : w.cell? ⟨A.block, A.off + 1, none⟩ = some (.int .i64 x1)) (hq0 : w.cell? ⟨A.block, A.off + 2, none⟩ = some (.int .i64 y0)) (hq1 : w.cell? ⟨A.block, A.off + 2 + 1, none⟩ = some (.int .i64 y1)) (hC : ∀ w1, Below w.heap.size w w1 → Calls Tryz.prog 17 #[.slice (some A) 2 c1] w1 fun e w' => e = .returned (.int .i64 0) ∧ Below w1.heap.size w1 w') :
    Calls Tryz.prog 11 #[.string a0, .slice (some A) 2 c1] w fun e w' => e = .returned (.tuple #[vv (r1, r2), .int .i64 0]) ∧ Below w.heap.size w w' := by
  have HT := Aside0.mk ht
  clear ht
  have HF := Aside0.mk hF
  have HV := Aside0.mk hv
  have HU := Aside0.mk hu
  have c1 : (x0 == 2) = false := beq_eq_false_iff_ne.2 fun h => hn (Or.inl h)
  have c2 : (y0 == 2) = false := beq_eq_false_iff_ne.2 fun h => hn (Or.inr h)
  clear hF hv hu hn
  have hb0 : Below w.heap.size w (w.alloc (.cells #[.int .i64 0, .int .i64 0] 25)) := below_one w _
  have r0 : (w.alloc (.cells #[.int .i64 0, .int .i64 0] 25)).heap[w.heap.size]? = some (.cells #[.int .i64 0, .int .i64 0] 25 (0, 0)) := blk_new w _
  have m0 := cell_of_row _ _ 0 _ _ _ r0
  have m1 := cell_of_row _ _ 1 _ _ _ r0
  have z0 := blk_frozen r0 0
  have z1 := blk_frozen r0 1
  simp only [List.getElem?_toArray, List.getElem?_cons_zero, List.getElem?_cons_succ] at m0 m1
  have HB := Aside0.mk hb0
  have p0 := pw_cell_below hb0 hp0
  have p1 := pw_cell_below hb0 hp1
  have q0 := pw_cell_below hb0 hq0
  have q1 := pw_cell_below hb0 hq1
  have q2 : (w.alloc (.cells #[.int .i64 0, .int .i64 0] 25)).cell? ⟨A.block, A.off + 3, none⟩ = some (.int .i64 y1) := q1
  have HC := Aside0.mk (hC _ hb0)
  clear hC hp0 hp1 hq0 hq1
  go_enter Tryz.func11, Tryz.ntmps11
  go_wp2_with fail
  generalize w.alloc (.cells #[.int .i64 0, .int .i64 0] 25) = W1 at HB HC p0 p1 q0 q1 q2 m0 m1 z0 z1 ⊢
  clear hb0 r0
  go_wp2_with (first
    | (go_at_call 17; refine HC.out.mono ?_; rintro e w1 ⟨rfl, hb1⟩; have p0 := pw_cell_below hb1 p0; have p1 := pw_cell_below hb1 p1; have q0 := pw_cell_below hb1 q0; have q1 := pw_cell_below hb1 q1; have q2 := pw_cell_below hb1 q2; have m0_ := m0; have m1_ := m1; have m0 := pw_cell_below hb1 m0_; have m1 := pw_cell_below hb1 m1_; have z0 := fz_below hb1 m0_ z0; have z1 := fz_below hb1 m1_ z1; clear m0_ m1_; have HB := Aside0.mk (HB.out.trans (hb1.mono HB.out.size)); clear hb1)
    | (go_at_call 38; refine (twos_calls _).mono ?_; rintro e w1 ⟨r, l, rfl, mk⟩; have hb1 := mk.b; have p0 := pw_cell_below hb1 p0; have p1 := pw_cell_below hb1 p1; have q0 := pw_cell_below hb1 q0; have q1 := pw_cell_below hb1 q1; have q2 := pw_cell_below hb1 q2; obtain ⟨f, hf1, g, cb, rfl, eg, hf2⟩ := mk.e.find_some HT.out; have hlk := run_find (Tryz.underlying52) (Tryz.underlying9) mk.m a0 .nilFunc (Tryz.zeroValue50 _); rw [hf1] at hlk; have HG := Aside0.mk (fun w2 (h2 : Keeps r w1 w2) => hf2 w2 h2 (x0, x1) (y0, y1) HV.out HU.out); clear mk hf1 hf2; simp only at hlk; have m0_ := m0; have m1_ := m1; have m0 := pw_cell_below hb1 m0_; have m1 := pw_cell_below hb1 m1_; have z0 := fz_below hb1 m0_ z0; have z1 := fz_below hb1 m1_ z1; clear m0_ m1_; have HB := Aside0.mk (HB.out.trans (hb1.mono HB.out.size)); clear hb1; rw [HF.out] at HG))
  go_region_with (go_at_fn g; refine (HG.out _ (Keeps.of_below (Below.refl _ _).drew)).mono ?_; rintro e w1 ⟨rfl, hb1⟩; have m0_ := m0; have m1_ := m1; have m0 := pw_cell_below hb1 m0_; have m1 := pw_cell_below hb1 m1_; have z0 := fz_below hb1 m0_ z0; have z1 := fz_below hb1 m1_ z1; clear m0_ m1_; have HB := Aside0.mk (HB.out.trans (((Below.refl _ _).drew.trans hb1).mono HB.out.size)); clear hb1)
  all_goals
    go_wp2_with fail
    exact bodyPost_ret (v := .tuple #[vv (r1, r2), .int .i64 0]) (by simp [results, Tryz.results11, go_sem, m0, m1]) rfl ⟨rfl, (HB.out.setCell (by simp) _).setCell (by simp) _⟩
end
def value_Do.f (a0 : ByteArray) (l1 : List S25) : Option (Int × Int × Int) := some ((vDo a0 (l1.map sv)).1.1, (vDo a0 (l1.map sv)).1.2, (vDo a0 (l1.map sv)).2)
theorem cellz {w : World} {A : Option Addr} {n : Nat} {xs : List S25} (h : Kd.C k25 w A n xs) (i : Nat) (h1 : i < n) : ∃ ad, A = some ad ∧ w.cell? (ad.add (i * 2)) = some (.int .i64 (rd_T25 xs i).f0) ∧ w.cell? ⟨(ad.add (i * 2)).block, (ad.add (i * 2)).off + 1, none⟩ = some (.int .i64 (rd_T25 xs i).f1) := by
  obtain ⟨ad, e, p0, p1⟩ := at_T25 h (i : Int) (by omega) (by omega)
  rw [Int.toNat_natCast] at p0 p1
  exact ⟨ad, e, p0, p1⟩
set_option maxRecDepth 10000 in
theorem value_Do.calls (a0 : ByteArray) (A1 : Option Addr) (c1 : Nat) (l1 : List S25) (r1 r2 r3 : Int) (w : World) (hr1 : Kd.C k25 w A1 l1.length l1) (hc1 : l1.length ≤ c1) (h : value_Do.f a0 l1 = some (r1, r2, r3)) :
    Calls Tryz.prog 11 #[.string a0, .slice A1 l1.length c1] w fun e w' => e = .returned (.tuple #[.agg #[.int .i64 r1, .int .i64 r2], .int .i64 r3]) ∧ Below w.heap.size w w' := by
  have hcall : Calls Tryz.prog 11 #[.string a0, .slice A1 l1.length c1] w fun e w' => e = .returned (.tuple #[vv (vDo a0 (l1.map sv)).1, .int .i64 (vDo a0 (l1.map sv)).2]) ∧ Below w.heap.size w w' := by
    clear h
    have hC : ∀ w1, Below w.heap.size w w1 → Calls Tryz.prog 17 #[.slice A1 l1.length c1] w1 fun e w' => e = .returned (.int .i64 (if l1.any badV then 80 else 0)) ∧ Below w1.heap.size w1 w' := fun w1 h1 => value_Check.calls A1 c1 l1 _ w1 (Kd.C_below hr1 h1) hc1 rfl
    by_cases hb : l1.any badV = true
    · rw [if_pos hb] at hC
      have e : vDo a0 (l1.map sv) = ((0, 0), 80) := by unfold vDo; rw [any_sv, if_pos hb]
      rw [e]
      exact do_bad a0 c1 w A1 l1.length hC
    · rw [if_neg hb] at hC
      match l1, hr1, hb, hC with
      | [], hr1, hb, hC =>
        have e : vDo a0 (([] : List S25).map sv) = ((0, 0), 2) := rfl
        rw [e]
        exact do_len a0 c1 w A1 0 (by decide) (by decide) hC
      | [x], hr1, hb, hC =>
        obtain ⟨ad, rfl, p0, p1⟩ := cellz hr1 0 (by simp)
        have hv : isV (x.f0, x.f1) := by simpa [badV, sv] using hb
        cases ht : tab1.lookup a0 with
        | none =>
          have e : vDo a0 ([x].map sv) = ((0, 0), 2) := by unfold vDo; rw [any_sv, if_neg hb]; simp [ht]
          rw [e]
          exact do_one_none a0 c1 w ad x.f0 x.f1 ht p0 p1 hC
        | some F =>
          have e : vDo a0 ([x].map sv) = (F (x.f0, x.f1), 0) := by unfold vDo; rw [any_sv, if_neg hb]; simp [ht]
          rw [e]
          exact do_one a0 c1 w ad x.f0 x.f1 F ht _ _ rfl hv p0 p1 hC
      | [x, y], hr1, hb, hC =>
        obtain ⟨ad, rfl, p0, p1⟩ := cellz hr1 0 (by simp)
        obtain ⟨ad', e', q0, q1⟩ := cellz hr1 1 (by simp)
        injection e' with e'
        subst e'
        have hv : isV (x.f0, x.f1) ∧ isV (y.f0, y.f1) := by simpa [badV, sv] using hb
        cases ht : tab2.lookup a0 with
        | none =>
          have e : vDo a0 ([x, y].map sv) = ((0, 0), 2) := by unfold vDo; rw [any_sv, if_neg hb]; simp [ht]
          rw [e]
          exact do_two_none a0 c1 w ad x.f0 x.f1 y.f0 y.f1 ht p0 p1 q0 q1 hC
        | some F =>
          by_cases hn : x.f0 = 2 ∨ y.f0 = 2
          · have e : vDo a0 ([x, y].map sv) = ((2, 0), 0) := by unfold vDo; rw [any_sv, if_neg hb]; simp [ht, hn]
            rw [e]
            exact do_two_null a0 c1 w ad x.f0 x.f1 y.f0 y.f1 F ht hn p0 p1 q0 q1 hC
          · have e : vDo a0 ([x, y].map sv) = (F (x.f0, x.f1) (y.f0, y.f1), 0) := by unfold vDo; rw [any_sv, if_neg hb]; simp [ht, hn]
            rw [e]
            exact do_two a0 c1 w ad x.f0 x.f1 y.f0 y.f1 F ht _ _ hn rfl hv.1 hv.2 p0 p1 q0 q1 hC
      | x :: y :: z :: l, hr1, hb, hC =>
        have e : vDo a0 ((x :: y :: z :: l).map sv) = ((0, 0), 2) := by unfold vDo; rw [any_sv, if_neg hb]; rfl
        rw [e]
        exact do_len a0 c1 w A1 _ (by simp) (by simp) hC
  injection h with h
  injection h with h1 h
  injection h with h2 h3
  subst h1 h2 h3
  exact hcall
end Go.Proofs.YtcmiehddjgfjaaaGreatDoor.A
namespace Go.Proofs.YtcmiehddjgfjaaaGreatDoor.A
open Go.RowKit Go.Proofs.YtcmiehddjgfjaaaGreatDoorW.PrintWords Go.Proofs.YtcmiehddjgfjaaaGreatDoorW.PrintLast Go.Proofs.YtcmiehddjgfjaaaGreatDoorW.PrintMore Go.Proofs.YtcmiehddjgfjaaaGreatDoor.H Go.Sort
set_option linter.unusedVariables false
set_option linter.unusedSimpArgs false
theorem nan_calls (w : World) : Calls Tryz.prog 25 #[] w fun e w' => e = .returned (vv (3, 0)) ∧ Below w.heap.size w w' := value_NaN.calls 3 0 w rfl
theorem plus_calls (w : World) : Calls Tryz.prog 27 #[] w fun e w' => e = .returned (vv (4, 0)) ∧ Below w.heap.size w w' := value_Plus.calls 4 0 w rfl
theorem minus_calls (w : World) : Calls Tryz.prog 29 #[] w fun e w' => e = .returned (vv (5, 0)) ∧ Below w.heap.size w w' := value_Minus.calls 5 0 w rfl
theorem row_below {w w' : World} (hb : Below w.heap.size w w') {b : Nat} {o : Obj} (h : w.heap[b]? = some o) : w'.heap[b]? = some o := by
  have hlt : b < w.heap.size := by
    rcases Nat.lt_or_ge b w.heap.size with h' | h'
    · exact h'
    · rw [Array.getElem?_eq_none h'] at h; cases h
  rw [hb.block b hlt]; exact h
/-- What stands through value.Parse: the result's row, the row of the four, what there was. -/
structure PKeep (w : World) (R B : Nat) (w1 : World) : Prop where
  b : Below w.heap.size w w1
  m : w1.heap[R]? = some (.cells #[.int .i64 0, .int .i64 0] 25 (0, 0))
  v : w1.heap[B]? = some (.cells #[.int .i64 2, .int .i64 0, .int .i64 3, .int .i64 0, .int .i64 4, .int .i64 0, .int .i64 5, .int .i64 0] 25 (0, 0))
theorem PKeep.below {w w1 w2 : World} {R B : Nat} (h : PKeep w R B w1) (hb : Below w1.heap.size w1 w2) : PKeep w R B w2 :=
  ⟨h.b.trans (hb.mono h.b.size), row_below hb h.m, row_below hb h.v⟩
theorem PKeep.alloc {w w1 : World} {R B : Nat} (h : PKeep w R B w1) (o : Obj) : PKeep w R B (w1.alloc o) := h.below (below_alloc (Below.refl _ _) o)
theorem PKeep.drewN {w w1 : World} {R B : Nat} (h : PKeep w R B w1) (n : Nat) : PKeep w R B (w1.drewN n) := h.below (pw_below_drewN (Below.refl _ _) n)
theorem PKeep.m0 {w w1 : World} {R B : Nat} (h : PKeep w R B w1) : w1.cell? ⟨R, 0, none⟩ = some (.int .i64 0) := (cell_of_row _ _ 0 _ _ _ h.m).trans rfl
theorem PKeep.m1 {w w1 : World} {R B : Nat} (h : PKeep w R B w1) : w1.cell? ⟨R, 1, none⟩ = some (.int .i64 0) := (cell_of_row _ _ 1 _ _ _ h.m).trans rfl
theorem PKeep.z0 {w w1 : World} {R B : Nat} (h : PKeep w R B w1) : w1.frozen? ⟨R, 0, none⟩ = false := blk_frozen h.m 0
theorem PKeep.z1 {w w1 : World} {R B : Nat} (h : PKeep w R B w1) : w1.frozen? ⟨R, 1, none⟩ = false := blk_frozen h.m 1
theorem PKeep.put {w w1 : World} {R B : Nat} (h : PKeep w R B w1) (p : Addr) (u : Value) (h0 : w.heap.size ≤ p.block) (hR : R ≠ p.block) (hB : B ≠ p.block) : PKeep w R B (w1.setCell p u) :=
  ⟨h.b.setCell h0 u, (Below.heap_setCell _ _ _ _ hR).trans h.m, (Below.heap_setCell _ _ _ _ hB).trans h.v⟩
theorem row_lt {w : World} {b : Nat} {o : Obj} (h : w.heap[b]? = some o) : b < w.heap.size := by
  rcases Nat.lt_or_ge b w.heap.size with h' | h'
  · exact h'
  · rw [Array.getElem?_eq_none h'] at h; cases h
theorem num_calls (n : Int) (w : World) : Calls Tryz.prog 19 #[.int .i64 n] w fun e w' => e = .returned (.agg #[.int .i64 (vNum n).1, .int .i64 (vNum n).2]) ∧ Below w.heap.size w w' := value_Num.calls n _ _ w (num_is n)
theorem num_zero (w : World) : Calls Tryz.prog 19 #[.int .i64 0] w fun e w' => e = .returned (.agg #[.int .i64 1, .int .i64 0]) ∧ Below w.heap.size w w' := num_calls 0 w
theorem blk_new0 (w : World) (a b : Int) : (w.alloc (.cells #[.int .i64 a, .int .i64 b] 25)).cell? ⟨w.heap.size, 0, none⟩ = some (.int .i64 a) := (cell_of_row _ _ 0 _ _ _ (blk_new w _)).trans rfl
theorem blk_new1 (w : World) (a b : Int) : (w.alloc (.cells #[.int .i64 a, .int .i64 b] 25)).cell? ⟨w.heap.size, 1, none⟩ = some (.int .i64 b) := (cell_of_row _ _ 1 _ _ _ (blk_new w _)).trans rfl
/-- The row of 'v' between the second Num and what is written into it. -/
structure Slot (w : World) (R B : Nat) (w1 w2 : World) (x1 x2 v1 v2 : Int) : Prop where
  n0 : w2.cell? ⟨w1.heap.size, 0, none⟩ = some (.int .i64 x1)
  n1 : w2.cell? ⟨w1.heap.size, 1, none⟩ = some (.int .i64 x2)
  f0 : w2.frozen? ⟨w1.heap.size, 0, none⟩ = false
  f1 : w2.frozen? ⟨w1.heap.size, 1, none⟩ = false
  k : PKeep w R B ((w2.setCell ⟨w1.heap.size, 0, none⟩ (.int .i64 v1)).setCell ⟨w1.heap.size, 1, none⟩ (.int .i64 v2))
  r : ((w2.setCell ⟨w1.heap.size, 0, none⟩ (.int .i64 v1)).setCell ⟨w1.heap.size, 1, none⟩ (.int .i64 v2)).heap[w1.heap.size]? = some (.cells #[.int .i64 v1, .int .i64 v2] 25 (0, 0))
  d : R ≠ w1.heap.size
theorem slot_of {w w1 w2 : World} {R B : Nat} (K : PKeep w R B w1) (x1 x2 v1 v2 : Int) (hb : Below (w1.alloc (.cells #[.int .i64 x1, .int .i64 x2] 25)).heap.size (w1.alloc (.cells #[.int .i64 x1, .int .i64 x2] 25)) w2) : Slot w R B w1 w2 x1 x2 v1 v2 := by
  have r := row_below hb (blk_new w1 _)
  have hR : R ≠ w1.heap.size := by have := row_lt K.m; omega
  have hB : B ≠ w1.heap.size := by have := row_lt K.v; omega
  exact ⟨(blk_cell r 0).trans rfl, (blk_cell r 1).trans rfl, blk_frozen r 0, blk_frozen r 1, (((K.alloc _).below hb).put _ _ K.b.size hR hB).put _ _ K.b.size hR hB, blk_put (blk_put r 0 _ rfl) 1 _ rfl, hR⟩
/-- The names of what is beyond numbers are passed. -/
def Past (s : ByteArray) : Nat → Prop
  | 0 => True
  | 1 => (s.toList == [110, 117, 108, 108]) = false
  | 2 => (s.toList == [110, 117, 108, 108]) = false ∧ (s.toList == [78, 97, 78]) = false
  | 3 => (s.toList == [110, 117, 108, 108]) = false ∧ (s.toList == [78, 97, 78]) = false ∧ (s.toList == [43, 73, 110, 102]) = false
  | _ => (s.toList == [110, 117, 108, 108]) = false ∧ (s.toList == [78, 97, 78]) = false ∧ (s.toList == [43, 73, 110, 102]) = false ∧ (s.toList == [45, 73, 110, 102]) = false
/-- A text that is none of the four. -/
def pTail (l : List UInt8) : V × Int :=
  let c := Lib.cut (Lib.trimPrefix l [45]) [46]
  if c.2.1.length ≤ 3 then if c.1.length ≤ 13 then
    match pu 0 (c.1 ++ c.2.1 ++ List.replicate (3 - c.2.1.length) 48) with
    | some n =>
      let v := vNum (if Lib.hasPrefix l [45] = true then -(n : Int) else (n : Int))
      if v.1 = 1 then if vPrint v = l then (v, 0) else ((0, 0), 80) else ((0, 0), 80)
    | none => ((0, 0), 80)
  else ((0, 0), 80) else ((0, 0), 80)
/-- Every text as a value. -/
def vParse (l : List UInt8) : V × Int :=
  if l = [110, 117, 108, 108] then ((2, 0), 0) else if l = [78, 97, 78] then ((3, 0), 0) else if l = [43, 73, 110, 102] then ((4, 0), 0) else if l = [45, 73, 110, 102] then ((5, 0), 0) else pTail l
theorem pu_lt : ∀ (l : List UInt8) (acc n : Nat), pu acc l = some n → n + 1 ≤ (acc + 1) * 10 ^ l.length
  | [], acc, n, h => by
    injection h with h
    subst h
    simp
  | c :: r, acc, n, h => by
    rw [pu] at h
    split at h
    · have ih := pu_lt r _ n h
      rw [List.length_cons, Nat.pow_succ, Nat.mul_comm (10 ^ r.length) 10, ← Nat.mul_assoc]
      exact Nat.le_trans ih (Nat.mul_le_mul_right _ (by omega))
    · cases h
theorem sb_toList (l : List UInt8) : (sb l).toList = l := by rw [Lib.toList_data]
theorem trimPrefix_le (l p : List UInt8) : (Lib.trimPrefix l p).length ≤ l.length := by
  unfold Lib.trimPrefix
  split
  · simp
  · exact Nat.le_refl _
theorem cut_le (l : List UInt8) (p : List UInt8) : (Lib.cut l p).1.length ≤ l.length ∧ (Lib.cut l p).2.1.length ≤ l.length := by
  unfold Lib.cut
  split
  · simp [Nat.min_le_right]
  · simp
theorem sb_size (l : List UInt8) : (sb l).size = l.length := rfl
set_option maxHeartbeats 4000000 in
set_option maxRecDepth 100000 in
theorem parse_calls (s : ByteArray) (hs : s.size ≤ 20000) (w : World) (G : Glob w) :
    Calls Tryz.prog 31 #[.string s] w fun e w' => e = .returned (.tuple #[vv (vParse s.toList).1, .int .i64 (vParse s.toList).2]) ∧ Below w.heap.size w w' := by
  have hb0 : Below w.heap.size w (w.alloc (.cells #[.int .i64 0, .int .i64 0] 25)) := below_one w _
  have r0 : (w.alloc (.cells #[.int .i64 0, .int .i64 0] 25)).heap[w.heap.size]? = some (.cells #[.int .i64 0, .int .i64 0] 25 (0, 0)) := blk_new w _
  have HB := Aside0.mk hb0
  have HR := Aside0.mk r0
  have HG := Aside0.mk G
  clear G
  have HP2 : ∀ w1, Glob w1 → Calls Tryz.prog 33 #[.agg #[.int .i64 2, .int .i64 0]] w1 fun e w' => e = .returned (.string ⟨#[110, 117, 108, 108]⟩) ∧ Below w1.heap.size w1 w' := fun w1 g => print_calls 2 0 w1 g
  have HP2 := Aside0.mk HP2
  have HP3 : ∀ w1, Glob w1 → Calls Tryz.prog 33 #[.agg #[.int .i64 3, .int .i64 0]] w1 fun e w' => e = .returned (.string ⟨#[78, 97, 78]⟩) ∧ Below w1.heap.size w1 w' := fun w1 g => print_calls 3 0 w1 g
  have HP3 := Aside0.mk HP3
  have HP4 : ∀ w1, Glob w1 → Calls Tryz.prog 33 #[.agg #[.int .i64 4, .int .i64 0]] w1 fun e w' => e = .returned (.string ⟨#[43, 73, 110, 102]⟩) ∧ Below w1.heap.size w1 w' := fun w1 g => print_calls 4 0 w1 g
  have HP4 := Aside0.mk HP4
  have HP5 : ∀ w1, Glob w1 → Calls Tryz.prog 33 #[.agg #[.int .i64 5, .int .i64 0]] w1 fun e w' => e = .returned (.string ⟨#[45, 73, 110, 102]⟩) ∧ Below w1.heap.size w1 w' := fun w1 g => print_calls 5 0 w1 g
  have HP5 := Aside0.mk HP5
  go_enter Tryz.func31, Tryz.ntmps31
  go_wp2_with fail
  generalize w.alloc (.cells #[.int .i64 0, .int .i64 0] 25) = W1 at HB HR ⊢
  clear hb0 r0
  go_wp2_with (first
    | (go_at_call 23; refine (null_calls _).mono ?_; rintro e w1 ⟨rfl, hb1⟩; have HR := Aside0.mk (row_below hb1 HR.out); have HB := Aside0.mk (HB.out.trans (hb1.mono HB.out.size)); clear hb1)
    | (go_at_call 25; refine (nan_calls _).mono ?_; rintro e w1 ⟨rfl, hb1⟩; have HR := Aside0.mk (row_below hb1 HR.out); have HB := Aside0.mk (HB.out.trans (hb1.mono HB.out.size)); clear hb1)
    | (go_at_call 27; refine (plus_calls _).mono ?_; rintro e w1 ⟨rfl, hb1⟩; have HR := Aside0.mk (row_below hb1 HR.out); have HB := Aside0.mk (HB.out.trans (hb1.mono HB.out.size)); clear hb1)
    | (go_at_call 29; refine (minus_calls _).mono ?_; rintro e w1 ⟨rfl, hb1⟩; have HR := Aside0.mk (row_below hb1 HR.out); have HB := Aside0.mk (HB.out.trans (hb1.mono HB.out.size)); clear hb1))
  have HK := Aside0.mk (⟨below_alloc HB.out _, row_below (below_alloc (Below.refl _ _) _) HR.out, blk_new w1 _⟩ : PKeep w w.heap.size w1.heap.size (w1.alloc (.cells #[.int .i64 2, .int .i64 0, .int .i64 3, .int .i64 0, .int .i64 4, .int .i64 0, .int .i64 5, .int .i64 0] 25)))
  clear HB HR
  obtain ⟨W2, hW2⟩ : ∃ W2, W2 = w1.alloc (.cells #[.int .i64 2, .int .i64 0, .int .i64 3, .int .i64 0, .int .i64 4, .int .i64 0, .int .i64 5, .int .i64 0] 25) := ⟨_, rfl⟩
  rw [← hW2] at HK ⊢
  clear hW2
  generalize w1.heap.size = B at HK ⊢
  obtain ⟨R, hR⟩ : ∃ R, R = w.heap.size := ⟨_, rfl⟩
  have HX0 : Aside0 (w.heap.size ≤ R) := ⟨by omega⟩
  have HK : Aside0 (PKeep w R B W2) := by rw [hR]; exact HK
  rw [← hR]
  clear hR
  go_loopg [20] 4 (fun kq v20 w' => Aside0 (PKeep w R B w') ∧ ((v20 = .int .i64 0 ∧ Aside0 (kq = 4 ∧ Past s 0)) ∨ (v20 = .int .i64 1 ∧ Aside0 (kq = 3 ∧ Past s 1)) ∨ (v20 = .int .i64 2 ∧ Aside0 (kq = 2 ∧ Past s 2)) ∨ (v20 = .int .i64 3 ∧ Aside0 (kq = 1 ∧ Past s 3)) ∨ (v20 = .int .i64 4 ∧ Aside0 (kq = 0 ∧ Past s 4))))
  case atStart => exact ⟨HK, .inl ⟨rfl, ⟨rfl, trivial⟩⟩⟩
  case round =>
    obtain ⟨HK1, hrel⟩ := hrel
    clear HK
    rcases hrel with ⟨rfl, HQ⟩ | ⟨rfl, HQ⟩ | ⟨rfl, HQ⟩ | ⟨rfl, HQ⟩ | ⟨rfl, HQ⟩
    · have c0 := cell_of_row _ _ 0 _ _ _ HK1.out.v
      have c1 := cell_of_row _ _ 1 _ _ _ HK1.out.v
      simp only [List.getElem?_toArray, List.getElem?_cons_zero, List.getElem?_cons_succ] at c0 c1
      by_cases hq : s = ⟨#[110, 117, 108, 108]⟩
      · subst hq
        have HE : Aside0 (vParse (ByteArray.mk #[110, 117, 108, 108]).toList = ((2, 0), 0)) := ⟨by rw [Lib.toList_data]; simp [vParse]⟩
        clear HQ
        go_wp2_with fail
        refine (HP2.out _ (HG.out.below (HK1.out.alloc _).b)).mono ?_
        rintro e w1 ⟨rfl, hb1⟩
        have n0 := cell_of_row _ _ 0 _ _ _ (blk_new wr (.cells #[.int .i64 2, .int .i64 0] 25))
        have n1 := cell_of_row _ _ 1 _ _ _ (blk_new wr (.cells #[.int .i64 2, .int .i64 0] 25))
        simp only [List.getElem?_toArray, List.getElem?_cons_zero, List.getElem?_cons_succ] at n0 n1
        have n0 := pw_cell_below hb1 n0
        have n1 := pw_cell_below hb1 n1
        have HK := Aside0.mk ((HK1.out.alloc _).below hb1)
        clear HK1 c0 c1 hb1
        have m0 := cell_of_row _ _ 0 _ _ _ HK.out.m
        have m1 := cell_of_row _ _ 1 _ _ _ HK.out.m
        simp only [List.getElem?_toArray, List.getElem?_cons_zero, List.getElem?_cons_succ] at m0 m1
        have z0 := blk_frozen HK.out.m 0
        have z1 := blk_frozen HK.out.m 1
        go_wp2
        exact bodyPost_ret (v := .tuple #[vv (2, 0), .int .i64 0]) (by simp [results, Tryz.results31, go_sem, m0, m1]) rfl ⟨by rw [HE.out], (HK.out.b.setCell HX0.out _).setCell HX0.out _⟩
      · have hq' : (s.toList == [110, 117, 108, 108]) = false := by
          rw [beq_eq_false_iff_ne]
          intro h
          exact hq (ByteArray.ext (by rw [← Array.toList_inj, ← Lib.toList_data]; exact h))
        have HX : Aside0 (Past s 1) := ⟨hq'⟩
        go_wp2_with fail
        refine (HP2.out _ (HG.out.below (HK1.out.alloc _).b)).mono ?_
        rintro e w1 ⟨rfl, hb1⟩
        have HK := Aside0.mk ((HK1.out.alloc _).below hb1)
        clear HK1 c0 c1 hb1
        go_wp2
        go_roundg 3
        case measure => have := HQ.out.1; omega
        case rel => exact ⟨HK, .inr (.inl ⟨rfl, ⟨rfl, HX.out⟩⟩)⟩
    · have c0 := cell_of_row _ _ 2 _ _ _ HK1.out.v
      have c1 := cell_of_row _ _ 3 _ _ _ HK1.out.v
      simp only [List.getElem?_toArray, List.getElem?_cons_zero, List.getElem?_cons_succ] at c0 c1
      by_cases hq : s = ⟨#[78, 97, 78]⟩
      · subst hq
        have HE : Aside0 (vParse (ByteArray.mk #[78, 97, 78]).toList = ((3, 0), 0)) := ⟨by rw [Lib.toList_data]; simp [vParse]⟩
        clear HQ
        go_wp2_with fail
        refine (HP3.out _ (HG.out.below (HK1.out.alloc _).b)).mono ?_
        rintro e w1 ⟨rfl, hb1⟩
        have n0 := cell_of_row _ _ 0 _ _ _ (blk_new wr (.cells #[.int .i64 3, .int .i64 0] 25))
        have n1 := cell_of_row _ _ 1 _ _ _ (blk_new wr (.cells #[.int .i64 3, .int .i64 0] 25))
        simp only [List.getElem?_toArray, List.getElem?_cons_zero, List.getElem?_cons_succ] at n0 n1
        have n0 := pw_cell_below hb1 n0
        have n1 := pw_cell_below hb1 n1
        have HK := Aside0.mk ((HK1.out.alloc _).below hb1)
        clear HK1 c0 c1 hb1
        have m0 := cell_of_row _ _ 0 _ _ _ HK.out.m
        have m1 := cell_of_row _ _ 1 _ _ _ HK.out.m
        simp only [List.getElem?_toArray, List.getElem?_cons_zero, List.getElem?_cons_succ] at m0 m1
        have z0 := blk_frozen HK.out.m 0
        have z1 := blk_frozen HK.out.m 1
        go_wp2
        exact bodyPost_ret (v := .tuple #[vv (3, 0), .int .i64 0]) (by simp [results, Tryz.results31, go_sem, m0, m1]) rfl ⟨by rw [HE.out], (HK.out.b.setCell HX0.out _).setCell HX0.out _⟩
      · have hq' : (s.toList == [78, 97, 78]) = false := by
          rw [beq_eq_false_iff_ne]
          intro h
          exact hq (ByteArray.ext (by rw [← Array.toList_inj, ← Lib.toList_data]; exact h))
        have HX : Aside0 (Past s 2) := ⟨⟨HQ.out.2, hq'⟩⟩
        go_wp2_with fail
        refine (HP3.out _ (HG.out.below (HK1.out.alloc _).b)).mono ?_
        rintro e w1 ⟨rfl, hb1⟩
        have HK := Aside0.mk ((HK1.out.alloc _).below hb1)
        clear HK1 c0 c1 hb1
        go_wp2
        go_roundg 2
        case measure => have := HQ.out.1; omega
        case rel => exact ⟨HK, .inr (.inr (.inl ⟨rfl, ⟨rfl, HX.out⟩⟩))⟩
    · have c0 := cell_of_row _ _ 4 _ _ _ HK1.out.v
      have c1 := cell_of_row _ _ 5 _ _ _ HK1.out.v
      simp only [List.getElem?_toArray, List.getElem?_cons_zero, List.getElem?_cons_succ] at c0 c1
      by_cases hq : s = ⟨#[43, 73, 110, 102]⟩
      · subst hq
        have HE : Aside0 (vParse (ByteArray.mk #[43, 73, 110, 102]).toList = ((4, 0), 0)) := ⟨by rw [Lib.toList_data]; simp [vParse]⟩
        clear HQ
        go_wp2_with fail
        refine (HP4.out _ (HG.out.below (HK1.out.alloc _).b)).mono ?_
        rintro e w1 ⟨rfl, hb1⟩
        have n0 := cell_of_row _ _ 0 _ _ _ (blk_new wr (.cells #[.int .i64 4, .int .i64 0] 25))
        have n1 := cell_of_row _ _ 1 _ _ _ (blk_new wr (.cells #[.int .i64 4, .int .i64 0] 25))
        simp only [List.getElem?_toArray, List.getElem?_cons_zero, List.getElem?_cons_succ] at n0 n1
        have n0 := pw_cell_below hb1 n0
        have n1 := pw_cell_below hb1 n1
        have HK := Aside0.mk ((HK1.out.alloc _).below hb1)
        clear HK1 c0 c1 hb1
        have m0 := cell_of_row _ _ 0 _ _ _ HK.out.m
        have m1 := cell_of_row _ _ 1 _ _ _ HK.out.m
        simp only [List.getElem?_toArray, List.getElem?_cons_zero, List.getElem?_cons_succ] at m0 m1
        have z0 := blk_frozen HK.out.m 0
        have z1 := blk_frozen HK.out.m 1
        go_wp2
        exact bodyPost_ret (v := .tuple #[vv (4, 0), .int .i64 0]) (by simp [results, Tryz.results31, go_sem, m0, m1]) rfl ⟨by rw [HE.out], (HK.out.b.setCell HX0.out _).setCell HX0.out _⟩
      · have hq' : (s.toList == [43, 73, 110, 102]) = false := by
          rw [beq_eq_false_iff_ne]
          intro h
          exact hq (ByteArray.ext (by rw [← Array.toList_inj, ← Lib.toList_data]; exact h))
        have HX : Aside0 (Past s 3) := ⟨⟨HQ.out.2.1, HQ.out.2.2, hq'⟩⟩
        go_wp2_with fail
        refine (HP4.out _ (HG.out.below (HK1.out.alloc _).b)).mono ?_
        rintro e w1 ⟨rfl, hb1⟩
        have HK := Aside0.mk ((HK1.out.alloc _).below hb1)
        clear HK1 c0 c1 hb1
        go_wp2
        go_roundg 1
        case measure => have := HQ.out.1; omega
        case rel => exact ⟨HK, .inr (.inr (.inr (.inl ⟨rfl, ⟨rfl, HX.out⟩⟩)))⟩
    · have c0 := cell_of_row _ _ 6 _ _ _ HK1.out.v
      have c1 := cell_of_row _ _ 7 _ _ _ HK1.out.v
      simp only [List.getElem?_toArray, List.getElem?_cons_zero, List.getElem?_cons_succ] at c0 c1
      by_cases hq : s = ⟨#[45, 73, 110, 102]⟩
      · subst hq
        have HE : Aside0 (vParse (ByteArray.mk #[45, 73, 110, 102]).toList = ((5, 0), 0)) := ⟨by rw [Lib.toList_data]; simp [vParse]⟩
        clear HQ
        go_wp2_with fail
        refine (HP5.out _ (HG.out.below (HK1.out.alloc _).b)).mono ?_
        rintro e w1 ⟨rfl, hb1⟩
        have n0 := cell_of_row _ _ 0 _ _ _ (blk_new wr (.cells #[.int .i64 5, .int .i64 0] 25))
        have n1 := cell_of_row _ _ 1 _ _ _ (blk_new wr (.cells #[.int .i64 5, .int .i64 0] 25))
        simp only [List.getElem?_toArray, List.getElem?_cons_zero, List.getElem?_cons_succ] at n0 n1
        have n0 := pw_cell_below hb1 n0
        have n1 := pw_cell_below hb1 n1
        have HK := Aside0.mk ((HK1.out.alloc _).below hb1)
        clear HK1 c0 c1 hb1
        have m0 := cell_of_row _ _ 0 _ _ _ HK.out.m
        have m1 := cell_of_row _ _ 1 _ _ _ HK.out.m
        simp only [List.getElem?_toArray, List.getElem?_cons_zero, List.getElem?_cons_succ] at m0 m1
        have z0 := blk_frozen HK.out.m 0
        have z1 := blk_frozen HK.out.m 1
        go_wp2
        exact bodyPost_ret (v := .tuple #[vv (5, 0), .int .i64 0]) (by simp [results, Tryz.results31, go_sem, m0, m1]) rfl ⟨by rw [HE.out], (HK.out.b.setCell HX0.out _).setCell HX0.out _⟩
      · have hq' : (s.toList == [45, 73, 110, 102]) = false := by
          rw [beq_eq_false_iff_ne]
          intro h
          exact hq (ByteArray.ext (by rw [← Array.toList_inj, ← Lib.toList_data]; exact h))
        have HX : Aside0 (Past s 4) := ⟨⟨HQ.out.2.1, HQ.out.2.2.1, HQ.out.2.2.2, hq'⟩⟩
        go_wp2_with fail
        refine (HP5.out _ (HG.out.below (HK1.out.alloc _).b)).mono ?_
        rintro e w1 ⟨rfl, hb1⟩
        have HK := Aside0.mk ((HK1.out.alloc _).below hb1)
        clear HK1 c0 c1 hb1
        go_wp2
        go_roundg 0
        case measure => have := HQ.out.1; omega
        case rel => exact ⟨HK, .inr (.inr (.inr (.inr (⟨rfl, ⟨rfl, HX.out⟩⟩))))⟩
    · have HQ2 := HQ.out.2
      clear HQ
      obtain ⟨l, hl⟩ : ∃ l, s.toList = l := ⟨_, rfl⟩
      have hls : l.length ≤ 20000 := by rw [← hl, Lib.toList_data, ← Lib.size_eq]; exact hs
      have HV : Aside0 (vParse l = pTail l) := by
        obtain ⟨q1, q2, q3, q4⟩ := HQ2
        rw [hl] at q1 q2 q3 q4
        unfold vParse
        rw [if_neg (by simpa using q1), if_neg (by simpa using q2), if_neg (by simpa using q3), if_neg (by simpa using q4)]
        exact ⟨rfl⟩
      clear HQ2
      obtain ⟨X, hX⟩ : ∃ X, X = sb (Lib.cut (Lib.trimPrefix l [45]) [46]).1 := ⟨_, rfl⟩
      obtain ⟨Y, hY⟩ : ∃ X, X = sb (Lib.cut (Lib.trimPrefix l [45]) [46]).2.1 := ⟨_, rfl⟩
      obtain ⟨fd, hfd⟩ : ∃ X, X = (Lib.cut (Lib.trimPrefix l [45]) [46]).2.2 := ⟨_, rfl⟩
      obtain ⟨Bd, hBd⟩ : ∃ X, X = sb (Lib.trimPrefix l [45]) := ⟨_, rfl⟩
      obtain ⟨mi, hmi⟩ : ∃ X, X = Lib.hasPrefix l [45] := ⟨_, rfl⟩
      have htl := trimPrefix_le l [45]
      obtain ⟨hcl1, hcl2⟩ := cut_le (Lib.trimPrefix l [45]) [46]
      have HC1 : ∀ w1, Calls Tryz.prog 44 #[.string s, .string ⟨#[45]⟩] w1 fun e w' => e = .returned (.tuple #[.string Bd, .bool mi]) ∧ w' = w1 := fun w1 => by
        rw [hBd, hmi, ← hl, Lib.toList_data]
        exact strings_CutPrefix s ⟨#[45]⟩ w1
      have HC2 : ∀ w1, Glob w1 → Calls Tryz.prog 45 #[.string Bd, .string ⟨#[46]⟩] w1 fun e w' => e = .returned (.tuple #[.string X, .string Y, .bool fd]) ∧ Below w1.heap.size w1 w' := fun w1 g => by
        obtain ⟨m, hm⟩ := g.max
        refine (strings_Cut Bd ⟨#[46]⟩ m w1 (by rw [hBd, sb_size]; omega) hm).mono fun e w' ⟨he, n, hw⟩ => ⟨?_, ?_⟩
        · rw [he, hX, hY, hfd, hBd]
        · rw [hw]; exact pw_below_drewN (Below.refl _ _) n
      have hXs : X.size = (Lib.cut (Lib.trimPrefix l [45]) [46]).1.length := by rw [hX, sb_size]
      have hYs : Y.size = (Lib.cut (Lib.trimPrefix l [45]) [46]).2.1.length := by rw [hY, sb_size]
      have hX1 : X.size ≤ 20000 := by omega
      have hY1 : Y.size ≤ 20000 := by omega
      have HC1 := Aside0.mk HC1
      have HC2 := Aside0.mk HC2
      have HK := HK1
      clear HK1
      by_cases hy : Y.size ≤ 3
      · by_cases hx : X.size ≤ 13
        · have e48 : Lib.repeatL [48] (3 - Y.size) = List.replicate (3 - Y.size) 48 := by
            have h := Lib.repeatL_replicate 48 1 (3 - Y.size)
            rw [Nat.mul_one] at h
            exact h
          obtain ⟨Z, hZ⟩ : ∃ Z, Z = sb (List.replicate (3 - Y.size) (48 : UInt8)) := ⟨_, rfl⟩
          have hZs : Z.size = 3 - Y.size := by rw [hZ, sb_size, List.length_replicate]
          have HC3 : ∀ w1, Calls Tryz.prog 47 #[.string ⟨#[48]⟩, .int .i64 (3 - (Y.size : Int))] w1 fun e w' => e = .returned (.string Z) ∧ Below w1.heap.size w1 w' := fun w1 => by
            have h := strings_Repeat ⟨#[48]⟩ (3 - Y.size) w1 (by omega) (by show 1 * (3 - Y.size) ≤ _; omega)
            rw [show ((3 - Y.size : Nat) : Int) = 3 - (Y.size : Int) by omega] at h
            refine h.mono fun e w' ⟨he, hw⟩ => ⟨?_, hw⟩
            rw [he, hZ, ← e48]
          have HC3 := Aside0.mk HC3
          have hZ1 : Z.size ≤ 3 := by omega
          have hT : (X ++ Y ++ Z).data.toList = (Lib.cut (Lib.trimPrefix l [45]) [46]).1 ++ (Lib.cut (Lib.trimPrefix l [45]) [46]).2.1 ++ List.replicate (3 - (Lib.cut (Lib.trimPrefix l [45]) [46]).2.1.length) 48 := by
            rw [hX, hY, hZ, sb_app, sb_app]
            show _ ++ _ ++ List.replicate (3 - Y.size) 48 = _
            rw [hYs]
          have hTs : (X ++ Y ++ Z).size ≠ 0 ∧ (X ++ Y ++ Z).size ≤ 16 := by
            rw [ByteArray.size_append, ByteArray.size_append]; omega
          have HC4 := fun w1 g => parseUint_calls (X ++ Y ++ Z) hTs.1 hTs.2 w1 g
          rw [hT] at HC4
          have hlen : ((Lib.cut (Lib.trimPrefix l [45]) [46]).1 ++ (Lib.cut (Lib.trimPrefix l [45]) [46]).2.1 ++ List.replicate (3 - (Lib.cut (Lib.trimPrefix l [45]) [46]).2.1.length) 48).length ≤ 16 := by
            rw [List.length_append, List.length_append, List.length_replicate]; omega
          have hlt := pu_lt ((Lib.cut (Lib.trimPrefix l [45]) [46]).1 ++ (Lib.cut (Lib.trimPrefix l [45]) [46]).2.1 ++ List.replicate (3 - (Lib.cut (Lib.trimPrefix l [45]) [46]).2.1.length) 48) 0
          have hT2 : pTail l = match pu 0 ((Lib.cut (Lib.trimPrefix l [45]) [46]).1 ++ (Lib.cut (Lib.trimPrefix l [45]) [46]).2.1 ++ List.replicate (3 - (Lib.cut (Lib.trimPrefix l [45]) [46]).2.1.length) 48) with
              | some n =>
                if (vNum (if mi = true then -(n : Int) else (n : Int))).1 = 1 then if vPrint (vNum (if mi = true then -(n : Int) else (n : Int))) = l then (vNum (if mi = true then -(n : Int) else (n : Int)), 0) else ((0, 0), 80) else ((0, 0), 80)
              | none => ((0, 0), 80) := by
            unfold pTail
            simp only
            rw [if_pos (by omega), if_pos (by omega), hmi]
          rw [hT2] at HV
          have hpw : 10 ^ ((Lib.cut (Lib.trimPrefix l [45]) [46]).1 ++ (Lib.cut (Lib.trimPrefix l [45]) [46]).2.1 ++ List.replicate (3 - (Lib.cut (Lib.trimPrefix l [45]) [46]).2.1.length) 48).length ≤ 10 ^ 16 := Nat.pow_le_pow_right (by omega) hlen
          generalize pu 0 ((Lib.cut (Lib.trimPrefix l [45]) [46]).1 ++ (Lib.cut (Lib.trimPrefix l [45]) [46]).2.1 ++ List.replicate (3 - (Lib.cut (Lib.trimPrefix l [45]) [46]).2.1.length) 48) = pr at HC4 HV hlt
          clear hT hTs hT2 e48 hZ hBd hmi hfd hlen hXs hYs hZs hX hY
          cases pr with
          | none =>
            have HC5 : ∀ w1, Glob w1 → Calls Tryz.prog 46 #[.string (X ++ Y ++ Z), .int .i64 10, .int .i64 62] w1 fun e w' => (∃ p, e = .returned (.tuple #[.int .u64 0, .iface 113 (.pointer (some p))])) ∧ Below w1.heap.size w1 w' := fun w1 g =>
              (HC4 w1 g).mono fun e w' h => by
                obtain ⟨hb, ⟨n', hn', he⟩ | ⟨hn', he⟩⟩ := h
                · cases hn'
                · exact ⟨he, hb⟩
            clear HC4 hlt hpw
            simp only at HV
            have HC5 := Aside0.mk HC5
            clear hcl1 hcl2 htl hls
            have HN := Aside0.mk num_zero
            have HM := Aside0.mk num_zero
            cases mi
            · skip
              go_wp2_with (first
                | (go_at_call 44; refine (HC1.out _).mono ?_; rintro e w1 ⟨rfl, rfl⟩)
                | (go_at_call 45; refine (HC2.out _ (HG.out.below HK.out.b)).mono ?_; rintro e w1 ⟨rfl, hb1⟩; have HK := Aside0.mk (HK.out.below hb1); clear hb1)
                | (go_at_call 47; refine (HC3.out _).mono ?_; rintro e w1 ⟨rfl, hb1⟩; have HK := Aside0.mk (HK.out.below hb1); clear hb1)
                | (go_at_call 46; refine (HC5.out _ (HG.out.below HK.out.b)).mono ?_; rintro e w1 ⟨⟨p, rfl⟩, hb1⟩; have HK := Aside0.mk (HK.out.below hb1); clear hb1)
                | (go_at_call 19; refine (HN.out _).mono ?_; rintro e w1 ⟨rfl, hb1⟩; have HK := Aside0.mk (HK.out.below hb1); clear hb1; have m0 := (HK.out.alloc (.cells #[.int .i64 1, .int .i64 0] 25)).m0; have m1 := (HK.out.alloc (.cells #[.int .i64 1, .int .i64 0] 25)).m1; have z0 := (HK.out.alloc (.cells #[.int .i64 1, .int .i64 0] 25)).z0; have z1 := (HK.out.alloc (.cells #[.int .i64 1, .int .i64 0] 25)).z1))
              exact bodyPost_ret (v := .tuple #[vv (0, 0), .int .i64 80]) (by simp [results, Tryz.results31, go_sem, m0, m1]) rfl ⟨by first | rw [HV.out] | rw [hl, HV.out], ((HK.out.alloc _).b.setCell HX0.out _).setCell HX0.out _⟩
            · skip
              go_wp2_with (first
                | (go_at_call 44; refine (HC1.out _).mono ?_; rintro e w1 ⟨rfl, rfl⟩)
                | (go_at_call 45; refine (HC2.out _ (HG.out.below HK.out.b)).mono ?_; rintro e w1 ⟨rfl, hb1⟩; have HK := Aside0.mk (HK.out.below hb1); clear hb1)
                | (go_at_call 47; refine (HC3.out _).mono ?_; rintro e w1 ⟨rfl, hb1⟩; have HK := Aside0.mk (HK.out.below hb1); clear hb1)
                | (go_at_call 46; refine (HC5.out _ (HG.out.below HK.out.b)).mono ?_; rintro e w1 ⟨⟨p, rfl⟩, hb1⟩; have HK := Aside0.mk (HK.out.below hb1); clear hb1)
                | (first | (go_at_call 19; (with_reducible refine (HM.out _).mono ?_); rintro e w2 ⟨rfl, hb1⟩; have SR := Aside0.mk (slot_of HK.out 1 0 1 0 hb1); have n0 := SR.out.n0; have n1 := SR.out.n1; have f0 := SR.out.f0; have f1 := SR.out.f1; have dR := SR.out.d; have dR' := SR.out.d.symm; have m0 := SR.out.k.m0; have m1 := SR.out.k.m1; have z0 := SR.out.k.z0; have z1 := SR.out.k.z1; clear hb1) | (go_at_call 19; (with_reducible refine (HN.out _).mono ?_); rintro e w1 ⟨rfl, hb1⟩; have HK := Aside0.mk (HK.out.below hb1); clear hb1)))
              exact bodyPost_ret (v := .tuple #[vv (0, 0), .int .i64 80]) (by simp [results, Tryz.results31, go_sem, m0, m1]) rfl ⟨by first | rw [HV.out] | rw [hl, HV.out], (SR.out.k.b.setCell HX0.out _).setCell HX0.out _⟩
          | some n =>
            have hn := hlt n rfl
            have hn1 : (n : Int) < 10000000000000000 := by omega
            have hn0 : (0 : Int) ≤ (n : Int) := by omega
            have HC5 : ∀ w1, Glob w1 → Calls Tryz.prog 46 #[.string (X ++ Y ++ Z), .int .i64 10, .int .i64 62] w1 fun e w' => e = .returned (.tuple #[.int .u64 n, .nilIface]) ∧ Below w1.heap.size w1 w' := fun w1 g =>
              (HC4 w1 g).mono fun e w' h => by
                obtain ⟨hb, ⟨n', hn', he⟩ | ⟨hn', _⟩⟩ := h
                · injection hn' with hn'; subst hn'; exact ⟨he, hb⟩
                · cases hn'
            clear HC4 hlt hn hpw
            simp only at HV
            obtain ⟨a, ha⟩ : ∃ a : Int, (n : Int) = a := ⟨_, rfl⟩
            rw [ha] at HV HC5 hn0 hn1
            have HC5 := Aside0.mk HC5
            clear ha hcl1 hcl2 htl hls
            have HN := num_calls a
            cases mi with
            | false =>
              simp only [Bool.false_eq_true, if_false] at HV
              obtain ⟨⟨v1, v2⟩, hv⟩ : ∃ v : V, vNum a = v := ⟨_, rfl⟩
              rw [hv] at HV HN
              have HN := Aside0.mk HN
              clear hv
              by_cases hk : v1 = 1
              · subst hk
                have HPr := print_calls 1 v2
                rw [if_pos rfl] at HV
                obtain ⟨Pt, hPt⟩ : ∃ P, sb (vPrint (1, v2)) = P := ⟨_, rfl⟩
                rw [hPt] at HPr
                have HPr := Aside0.mk HPr
                by_cases he : vPrint (1, v2) = l
                · rw [if_pos he] at HV
                  have he2 : (Pt.toList == l) = true := by rw [← hPt, sb_toList, he]; simp
                  clear he hPt
                  go_wp2_with (first
                    | (go_at_call 44; refine (HC1.out _).mono ?_; rintro e w1 ⟨rfl, rfl⟩)
                    | (go_at_call 45; refine (HC2.out _ (HG.out.below HK.out.b)).mono ?_; rintro e w1 ⟨rfl, hb1⟩; have HK := Aside0.mk (HK.out.below hb1); clear hb1)
                    | (go_at_call 47; refine (HC3.out _).mono ?_; rintro e w1 ⟨rfl, hb1⟩; have HK := Aside0.mk (HK.out.below hb1); clear hb1)
                    | (go_at_call 46; refine (HC5.out _ (HG.out.below HK.out.b)).mono ?_; rintro e w1 ⟨rfl, hb1⟩; have HK := Aside0.mk (HK.out.below hb1); clear hb1)
                    | (go_at_call 19; refine (HN.out _).mono ?_; rintro e w1 ⟨rfl, hb1⟩; have HK := Aside0.mk (HK.out.below hb1); clear hb1; have m0 := HK.out.m0; have m1 := HK.out.m1; have z0 := HK.out.z0; have z1 := HK.out.z1)
                    | (go_at_call 33; refine (HPr.out _ (HG.out.below (HK.out.alloc _).b)).mono ?_; rintro e w2 ⟨rfl, hb1⟩; have n0 := pw_cell_below hb1 (blk_new0 w1 1 v2); have n1 := pw_cell_below hb1 (blk_new1 w1 1 v2); have HK := Aside0.mk ((HK.out.alloc _).below hb1); clear hb1; have m0 := HK.out.m0; have m1 := HK.out.m1; have z0 := HK.out.z0; have z1 := HK.out.z1))
                  exact bodyPost_ret (v := .tuple #[vv (1, v2), .int .i64 0]) (by simp [results, Tryz.results31, go_sem, m0, m1]) rfl ⟨by first | rw [HV.out] | rw [hl, HV.out], (HK.out.b.setCell HX0.out _).setCell HX0.out _⟩
                · rw [if_neg he] at HV
                  have he2 : (Pt.toList == l) = false := by rw [← hPt, sb_toList]; simpa using he
                  clear he hPt
                  go_wp2_with (first
                    | (go_at_call 44; refine (HC1.out _).mono ?_; rintro e w1 ⟨rfl, rfl⟩)
                    | (go_at_call 45; refine (HC2.out _ (HG.out.below HK.out.b)).mono ?_; rintro e w1 ⟨rfl, hb1⟩; have HK := Aside0.mk (HK.out.below hb1); clear hb1)
                    | (go_at_call 47; refine (HC3.out _).mono ?_; rintro e w1 ⟨rfl, hb1⟩; have HK := Aside0.mk (HK.out.below hb1); clear hb1)
                    | (go_at_call 46; refine (HC5.out _ (HG.out.below HK.out.b)).mono ?_; rintro e w1 ⟨rfl, hb1⟩; have HK := Aside0.mk (HK.out.below hb1); clear hb1)
                    | (go_at_call 19; refine (HN.out _).mono ?_; rintro e w1 ⟨rfl, hb1⟩; have HK := Aside0.mk (HK.out.below hb1); clear hb1; have m0 := HK.out.m0; have m1 := HK.out.m1; have z0 := HK.out.z0; have z1 := HK.out.z1)
                    | (go_at_call 33; refine (HPr.out _ (HG.out.below (HK.out.alloc _).b)).mono ?_; rintro e w2 ⟨rfl, hb1⟩; have n0 := pw_cell_below hb1 (blk_new0 w1 1 v2); have n1 := pw_cell_below hb1 (blk_new1 w1 1 v2); have HK := Aside0.mk ((HK.out.alloc _).below hb1); clear hb1; have m0 := HK.out.m0; have m1 := HK.out.m1; have z0 := HK.out.z0; have z1 := HK.out.z1))
                  exact bodyPost_ret (v := .tuple #[vv (0, 0), .int .i64 80]) (by simp [results, Tryz.results31, go_sem, m0, m1]) rfl ⟨by first | rw [HV.out] | rw [hl, HV.out], (HK.out.b.setCell HX0.out _).setCell HX0.out _⟩
              · rw [if_neg hk] at HV
                have hk2 : (v1 == 1) = false := by simpa using hk
                go_wp2_with (first
                  | (go_at_call 44; refine (HC1.out _).mono ?_; rintro e w1 ⟨rfl, rfl⟩)
                  | (go_at_call 45; refine (HC2.out _ (HG.out.below HK.out.b)).mono ?_; rintro e w1 ⟨rfl, hb1⟩; have HK := Aside0.mk (HK.out.below hb1); clear hb1)
                  | (go_at_call 47; refine (HC3.out _).mono ?_; rintro e w1 ⟨rfl, hb1⟩; have HK := Aside0.mk (HK.out.below hb1); clear hb1)
                  | (go_at_call 46; refine (HC5.out _ (HG.out.below HK.out.b)).mono ?_; rintro e w1 ⟨rfl, hb1⟩; have HK := Aside0.mk (HK.out.below hb1); clear hb1)
                  | (go_at_call 19; refine (HN.out _).mono ?_; rintro e w1 ⟨rfl, hb1⟩; have HK := Aside0.mk (HK.out.below hb1); clear hb1; have m0 := (HK.out.alloc (.cells #[.int .i64 v1, .int .i64 v2] 25)).m0; have m1 := (HK.out.alloc (.cells #[.int .i64 v1, .int .i64 v2] 25)).m1; have z0 := (HK.out.alloc (.cells #[.int .i64 v1, .int .i64 v2] 25)).z0; have z1 := (HK.out.alloc (.cells #[.int .i64 v1, .int .i64 v2] 25)).z1))
                exact bodyPost_ret (v := .tuple #[vv (0, 0), .int .i64 80]) (by simp [results, Tryz.results31, go_sem, m0, m1]) rfl ⟨by first | rw [HV.out] | rw [hl, HV.out], ((HK.out.alloc _).b.setCell HX0.out _).setCell HX0.out _⟩
            | true =>
              simp only [if_true] at HV
              obtain ⟨⟨x1, x2⟩, hx⟩ : ∃ v : V, vNum a = v := ⟨_, rfl⟩
              rw [hx] at HN
              have HN := Aside0.mk HN
              clear hx
              obtain ⟨⟨v1, v2⟩, hv⟩ : ∃ v : V, vNum (-a) = v := ⟨_, rfl⟩
              have HM := num_calls (-a)
              rw [hv] at HV HM
              have HM := Aside0.mk HM
              clear hv
              by_cases hk : v1 = 1
              · subst hk
                have HPr := print_calls 1 v2
                rw [if_pos rfl] at HV
                obtain ⟨Pt, hPt⟩ : ∃ P, sb (vPrint (1, v2)) = P := ⟨_, rfl⟩
                rw [hPt] at HPr
                have HPr := Aside0.mk HPr
                by_cases he : vPrint (1, v2) = l
                · rw [if_pos he] at HV
                  have he2 : (Pt.toList == l) = true := by rw [← hPt, sb_toList, he]; simp
                  clear he hPt
                  go_wp2_with (first
                    | (go_at_call 44; refine (HC1.out _).mono ?_; rintro e w1 ⟨rfl, rfl⟩)
                    | (go_at_call 45; refine (HC2.out _ (HG.out.below HK.out.b)).mono ?_; rintro e w1 ⟨rfl, hb1⟩; have HK := Aside0.mk (HK.out.below hb1); clear hb1)
                    | (go_at_call 47; refine (HC3.out _).mono ?_; rintro e w1 ⟨rfl, hb1⟩; have HK := Aside0.mk (HK.out.below hb1); clear hb1)
                    | (go_at_call 46; refine (HC5.out _ (HG.out.below HK.out.b)).mono ?_; rintro e w1 ⟨rfl, hb1⟩; have HK := Aside0.mk (HK.out.below hb1); clear hb1)
                    | (go_at_call 19; (with_reducible refine (HN.out _).mono ?_); rintro e w1 ⟨rfl, hb1⟩; have HK := Aside0.mk (HK.out.below hb1); clear hb1)
                    | (go_at_call 19; (with_reducible refine (HM.out _).mono ?_); rintro e w2 ⟨rfl, hb1⟩; have SR := Aside0.mk (slot_of HK.out x1 x2 1 v2 hb1); have n0 := SR.out.n0; have n1 := SR.out.n1; have f0 := SR.out.f0; have f1 := SR.out.f1; have dR := SR.out.d; have dR' := SR.out.d.symm; have m0 := SR.out.k.m0; have m1 := SR.out.k.m1; have z0 := SR.out.k.z0; have z1 := SR.out.k.z1; clear hb1)
                    | (go_at_call 33; refine (HPr.out _ (HG.out.below SR.out.k.b)).mono ?_; rintro e w3 ⟨rfl, hb1⟩; have r3 := row_below hb1 SR.out.r; have n0 := (blk_cell r3 0).trans (rfl : _ = some (Value.int .i64 1)); have n1 := (blk_cell r3 1).trans (rfl : _ = some (Value.int .i64 v2)); have HK := Aside0.mk (SR.out.k.below hb1); clear hb1 r3; have m0 := HK.out.m0; have m1 := HK.out.m1; have z0 := HK.out.z0; have z1 := HK.out.z1))
                  exact bodyPost_ret (v := .tuple #[vv (1, v2), .int .i64 0]) (by simp [results, Tryz.results31, go_sem, m0, m1]) rfl ⟨by first | rw [HV.out] | rw [hl, HV.out], (HK.out.b.setCell HX0.out _).setCell HX0.out _⟩
                · rw [if_neg he] at HV
                  have he2 : (Pt.toList == l) = false := by rw [← hPt, sb_toList]; simpa using he
                  clear he hPt
                  go_wp2_with (first
                    | (go_at_call 44; refine (HC1.out _).mono ?_; rintro e w1 ⟨rfl, rfl⟩)
                    | (go_at_call 45; refine (HC2.out _ (HG.out.below HK.out.b)).mono ?_; rintro e w1 ⟨rfl, hb1⟩; have HK := Aside0.mk (HK.out.below hb1); clear hb1)
                    | (go_at_call 47; refine (HC3.out _).mono ?_; rintro e w1 ⟨rfl, hb1⟩; have HK := Aside0.mk (HK.out.below hb1); clear hb1)
                    | (go_at_call 46; refine (HC5.out _ (HG.out.below HK.out.b)).mono ?_; rintro e w1 ⟨rfl, hb1⟩; have HK := Aside0.mk (HK.out.below hb1); clear hb1)
                    | (go_at_call 19; (with_reducible refine (HN.out _).mono ?_); rintro e w1 ⟨rfl, hb1⟩; have HK := Aside0.mk (HK.out.below hb1); clear hb1)
                    | (go_at_call 19; (with_reducible refine (HM.out _).mono ?_); rintro e w2 ⟨rfl, hb1⟩; have SR := Aside0.mk (slot_of HK.out x1 x2 1 v2 hb1); have n0 := SR.out.n0; have n1 := SR.out.n1; have f0 := SR.out.f0; have f1 := SR.out.f1; have dR := SR.out.d; have dR' := SR.out.d.symm; have m0 := SR.out.k.m0; have m1 := SR.out.k.m1; have z0 := SR.out.k.z0; have z1 := SR.out.k.z1; clear hb1)
                    | (go_at_call 33; refine (HPr.out _ (HG.out.below SR.out.k.b)).mono ?_; rintro e w3 ⟨rfl, hb1⟩; have r3 := row_below hb1 SR.out.r; have n0 := (blk_cell r3 0).trans (rfl : _ = some (Value.int .i64 1)); have n1 := (blk_cell r3 1).trans (rfl : _ = some (Value.int .i64 v2)); have HK := Aside0.mk (SR.out.k.below hb1); clear hb1 r3; have m0 := HK.out.m0; have m1 := HK.out.m1; have z0 := HK.out.z0; have z1 := HK.out.z1))
                  exact bodyPost_ret (v := .tuple #[vv (0, 0), .int .i64 80]) (by simp [results, Tryz.results31, go_sem, m0, m1]) rfl ⟨by first | rw [HV.out] | rw [hl, HV.out], (HK.out.b.setCell HX0.out _).setCell HX0.out _⟩
              · rw [if_neg hk] at HV
                have hk2 : (v1 == 1) = false := by simpa using hk
                go_wp2_with (first
                  | (go_at_call 44; refine (HC1.out _).mono ?_; rintro e w1 ⟨rfl, rfl⟩)
                  | (go_at_call 45; refine (HC2.out _ (HG.out.below HK.out.b)).mono ?_; rintro e w1 ⟨rfl, hb1⟩; have HK := Aside0.mk (HK.out.below hb1); clear hb1)
                  | (go_at_call 47; refine (HC3.out _).mono ?_; rintro e w1 ⟨rfl, hb1⟩; have HK := Aside0.mk (HK.out.below hb1); clear hb1)
                  | (go_at_call 46; refine (HC5.out _ (HG.out.below HK.out.b)).mono ?_; rintro e w1 ⟨rfl, hb1⟩; have HK := Aside0.mk (HK.out.below hb1); clear hb1)
                  | (go_at_call 19; (with_reducible refine (HN.out _).mono ?_); rintro e w1 ⟨rfl, hb1⟩; have HK := Aside0.mk (HK.out.below hb1); clear hb1)
                  | (go_at_call 19; (with_reducible refine (HM.out _).mono ?_); rintro e w2 ⟨rfl, hb1⟩; have SR := Aside0.mk (slot_of HK.out x1 x2 v1 v2 hb1); have n0 := SR.out.n0; have n1 := SR.out.n1; have f0 := SR.out.f0; have f1 := SR.out.f1; have dR := SR.out.d; have dR' := SR.out.d.symm; have m0 := SR.out.k.m0; have m1 := SR.out.k.m1; have z0 := SR.out.k.z0; have z1 := SR.out.k.z1; clear hb1))
                exact bodyPost_ret (v := .tuple #[vv (0, 0), .int .i64 80]) (by simp [results, Tryz.results31, go_sem, m0, m1]) rfl ⟨by first | rw [HV.out] | rw [hl, HV.out], (SR.out.k.b.setCell HX0.out _).setCell HX0.out _⟩
        · have hT2 : pTail l = ((0, 0), 80) := by
            unfold pTail
            simp only
            rw [if_pos (by omega), if_neg (by omega)]
          rw [hT2] at HV
          clear hT2 hXs hYs hX hY hBd hmi hfd hcl1 hcl2 htl
          go_wp2_with (first
            | (go_at_call 44; refine (HC1.out _).mono ?_; rintro e w1 ⟨rfl, rfl⟩)
            | (go_at_call 45; refine (HC2.out _ (HG.out.below HK.out.b)).mono ?_; rintro e w1 ⟨rfl, hb1⟩; have HK := Aside0.mk (HK.out.below hb1); clear hb1; have m0 := HK.out.m0; have m1 := HK.out.m1; have z0 := HK.out.z0; have z1 := HK.out.z1))
          exact bodyPost_ret (v := .tuple #[vv (0, 0), .int .i64 80]) (by simp [results, Tryz.results31, go_sem, m0, m1]) rfl ⟨by first | rw [HV.out] | rw [hl, HV.out], (HK.out.b.setCell HX0.out _).setCell HX0.out _⟩
      · have hT2 : pTail l = ((0, 0), 80) := by
          unfold pTail
          simp only
          rw [if_neg (by omega)]
        rw [hT2] at HV
        clear hT2 hXs hYs hX hY hBd hmi hfd hcl1 hcl2 htl
        go_wp2_with (first
          | (go_at_call 44; refine (HC1.out _).mono ?_; rintro e w1 ⟨rfl, rfl⟩)
          | (go_at_call 45; refine (HC2.out _ (HG.out.below HK.out.b)).mono ?_; rintro e w1 ⟨rfl, hb1⟩; have HK := Aside0.mk (HK.out.below hb1); clear hb1; have m0 := HK.out.m0; have m1 := HK.out.m1; have z0 := HK.out.z0; have z1 := HK.out.z1))
        exact bodyPost_ret (v := .tuple #[vv (0, 0), .int .i64 80]) (by simp [results, Tryz.results31, go_sem, m0, m1]) rfl ⟨by first | rw [HV.out] | rw [hl, HV.out], (HK.out.b.setCell HX0.out _).setCell HX0.out _⟩
end Go.Proofs.YtcmiehddjgfjaaaGreatDoor.A
namespace Go.Proofs.YtcmiehddjgfjaaaGreatDoor.A
open Go.RowKit Go.Proofs.YtcmiehddjgfjaaaGreatDoorW.PrintWords Go.Proofs.YtcmiehddjgfjaaaGreatDoorW.PrintLast Go.Proofs.YtcmiehddjgfjaaaGreatDoorW.PrintMore
set_option linter.unusedVariables false
set_option linter.unusedSimpArgs false
theorem itoa_nat (n : Nat) : Lib.itoa (n : Int) = Lib.decDigits n := by
  unfold Lib.itoa
  rw [if_neg (by omega), Int.toNat_natCast]
/-- The text of so many thousandths. -/
def nBody (m : Nat) : List UInt8 := Lib.decDigits (m / 1000) ++ (if m % 1000 > 0 then 46 :: frac (m % 1000) else [])
theorem pBody_nat (m : Nat) : pBody (m : Int) = nBody m := by
  unfold pBody nBody
  rw [show ((m : Int) / 1000) = ((m / 1000 : Nat) : Int) by omega, show ((m : Int) % 1000) = ((m % 1000 : Nat) : Int) by omega, itoa_nat]
  by_cases h : m % 1000 > 0
  · rw [if_pos h, if_pos (by omega), show (1000 : Int) + ((m % 1000 : Nat) : Int) = ((1000 + m % 1000 : Nat) : Int) by omega, itoa_nat, dec_1000 _ (by omega)]
    rfl
  · rw [if_neg h, if_neg (by omega)]
theorem nBody_head (m : Nat) : ∃ c r, nBody m = c :: r ∧ 48 ≤ c.toNat ∧ c.toNat ≤ 57 := by
  obtain ⟨c, r, e, h⟩ := dec_head (m / 1000)
  unfold nBody
  rw [e]
  exact ⟨c, _, rfl, h⟩
theorem dec_nodot (u : Nat) : ∀ c ∈ Lib.decDigits u, c ≠ 46 := fun c hc he => by
  have := dec_digits u c hc
  rw [he] at this
  have h46 : (46 : UInt8).toNat = 46 := rfl
  omega
theorem nBody_cut (m : Nat) : (Lib.cut (nBody m) [46]).1 = Lib.decDigits (m / 1000) ∧ (Lib.cut (nBody m) [46]).2.1 = (if m % 1000 > 0 then frac (m % 1000) else []) := by
  unfold nBody
  by_cases h : m % 1000 > 0
  · rw [if_pos h, if_pos h, cut_dot _ _ (dec_nodot _)]
    exact ⟨rfl, rfl⟩
  · rw [if_neg h, if_neg h, List.append_nil, cut_free _ (dec_nodot _)]
    exact ⟨rfl, rfl⟩
theorem nBody_pu (m : Nat) : pu 0 ((Lib.cut (nBody m) [46]).1 ++ (Lib.cut (nBody m) [46]).2.1 ++ List.replicate (3 - (Lib.cut (nBody m) [46]).2.1.length) 48) = some m := by
  obtain ⟨e1, e2⟩ := nBody_cut m
  rw [e1, e2, List.append_assoc, pu_dec]
  by_cases h : m % 1000 > 0
  · rw [if_pos h, pu_frac _ _ h (by omega), show m / 1000 * 1000 + m % 1000 = m by omega]
  · rw [if_neg h]
    show pu (m / 1000) [dg8 0, dg8 0, dg8 0] = _
    rw [pu_dg (by omega), pu_dg (by omega), pu_dg (by omega)]
    show some _ = some _
    congr 1; omega
theorem nBody_len (m : Nat) (hm : m ≤ 1000000000000000) : (Lib.cut (nBody m) [46]).1.length ≤ 13 ∧ (Lib.cut (nBody m) [46]).2.1.length ≤ 3 := by
  obtain ⟨e1, e2⟩ := nBody_cut m
  rw [e1, e2]
  refine ⟨dec_len 12 _ (by omega), ?_⟩
  split
  · exact (frac_len _ (by omega) (by omega)).2
  · simp
theorem cut_at (l : List UInt8) (m : Nat) (hm : m ≤ 1000000000000000) (mi : Bool) (n : Int) (hb : Lib.trimPrefix l [45] = nBody m) (hp : Lib.hasPrefix l [45] = mi) (hn : (if mi = true then -(m : Int) else (m : Int)) = n) (hl : vPrint (1, n) = l) : pTail l = ((1, n), 0) := by
  have h1 := nBody_len m hm
  have hv : vNum n = (1, n) := by
    unfold vNum
    cases mi <;> simp at hn <;> rw [if_neg (by omega), if_neg (by omega)]
  unfold pTail
  rw [hb, hp]
  simp only
  rw [if_pos h1.2, if_pos h1.1, nBody_pu]
  simp only
  rw [hn, hv, if_pos rfl, if_pos hl]
theorem print_head (n : Int) (hv : isV (1, n)) : ∃ m : Nat, m ≤ 1000000000000000 ∧ vPrint (1, n) = (if n < 0 then 45 :: nBody m else nBody m) ∧ n = (if n < 0 then -(m : Int) else (m : Int)) := by
  have hn : -1000000000000000 ≤ n ∧ n ≤ 1000000000000000 := isV_n hv
  refine ⟨n.natAbs, by omega, ?_, by split <;> omega⟩
  unfold vPrint
  rw [if_pos hv]
  unfold pText
  simp only
  rw [if_neg (by decide), if_neg (by decide), if_neg (by decide), if_neg (by decide)]
  by_cases h : n < 0
  · rw [if_pos h, if_pos h, show -n = ((n.natAbs : Nat) : Int) by omega, pBody_nat]
  · rw [if_neg h, if_neg h]
    conv => lhs; rw [show n = ((n.natAbs : Nat) : Int) by omega]
    rw [pBody_nat]
/-- What is printed is parsed to the same value. -/
theorem parse_print (v : V) (hv : isV v) : vParse (vPrint v) = (v, 0) := by
  obtain ⟨k, n⟩ := v
  have hv0 := hv
  rcases hv with ⟨hk, h1, h2⟩ | ⟨hk, h1⟩
  · obtain rfl : k = 1 := hk
    obtain ⟨m, hm, hp, hn⟩ := print_head n hv0
    obtain ⟨c, r, e, hc1, hc2⟩ := nBody_head m
    have n1 : c ≠ 110 := fun h => by rw [h] at hc2; exact absurd hc2 (by decide)
    have n2 : c ≠ 78 := fun h => by rw [h] at hc2; exact absurd hc2 (by decide)
    have n3 : c ≠ 43 := fun h => by rw [h] at hc1; exact absurd hc1 (by decide)
    have n4 : c ≠ 45 := fun h => by rw [h] at hc1; exact absurd hc1 (by decide)
    have n5 : c ≠ 73 := fun h => by rw [h] at hc2; exact absurd hc2 (by decide)
    unfold vParse
    by_cases h : n < 0
    · rw [if_pos h] at hp hn
      have hp' : vPrint (1, n) = 45 :: c :: r := by rw [hp, e]
      rw [hp', if_neg (by simp), if_neg (by simp), if_neg (by simp), if_neg (by simp [n5])]
      refine cut_at _ m hm true n ?_ ?_ (by rw [if_pos rfl]; exact hn.symm) (by rw [hp'])
      · rw [← e]; simp [Lib.trimPrefix, Lib.hasPrefix]
      · simp [Lib.hasPrefix]
    · rw [if_neg h] at hp hn
      have hp' : vPrint (1, n) = c :: r := by rw [hp, e]
      rw [hp', if_neg (by simp [n1]), if_neg (by simp [n2]), if_neg (by simp [n3]), if_neg (by simp [n4])]
      have hf : Lib.hasPrefix (c :: r) [45] = false := by
        show ((45 : UInt8) == c && [].isPrefixOf r) = false
        rw [beq_false_of_ne (Ne.symm n4)]; rfl
      refine cut_at _ m hm false n ?_ hf (by simpa using hn.symm) (by rw [hp'])
      unfold Lib.trimPrefix
      rw [hf, ← e]; simp
  · have e : n = 0 := h1
    subst e
    have hp : vPrint (k, 0) = pText (k, 0) := if_pos hv0
    rw [hp]
    rcases hk with hk | hk | hk | hk <;> (have hk' := hk; simp only at hk'; subst hk'; rfl)
end Go.Proofs.YtcmiehddjgfjaaaGreatDoor.A
namespace Go.Proofs.YtcmiehddjgfjaaaGreatDoor.A
open Go.RowKit Go.Proofs.YtcmiehddjgfjaaaGreatDoorW.PrintWords Go.Proofs.YtcmiehddjgfjaaaGreatDoorW.PrintLast Go.Proofs.YtcmiehddjgfjaaaGreatDoorW.PrintMore
set_option linter.unusedVariables false
theorem op1_neg : tab1.lookup ⟨#[45]⟩ = some (vPlain (fun n => -n)) := rfl
theorem op1_abs : tab1.lookup ⟨#[97, 98, 115]⟩ = some (vPlain vMax) := rfl
theorem op1_floor : tab1.lookup ⟨#[102, 108, 111, 111, 114]⟩ = some vFloor := rfl
theorem op2_mul : tab2.lookup ⟨#[42]⟩ = some (vNumbers vMul) := rfl
theorem op2_div : tab2.lookup ⟨#[47]⟩ = some (vNumbers vDiv) := rfl
theorem op2_ne : tab2.lookup ⟨#[33, 61]⟩ = some (vOrder true (fun m n => m != n)) := rfl
theorem op2_gt : tab2.lookup ⟨#[62]⟩ = some (vOrder false (fun m n => decide (m > n))) := rfl
/-- value.Do of one value. -/
theorem do_1 {op : ByteArray} {F : V → V} (ht : tab1.lookup op = some F) {a : V} (ha : isV a) : value_Do.f op [⟨a.1, a.2⟩] = some ((F a).1, (F a).2, 0) := by
  have e : vDo op [a] = (F a, 0) := by
    unfold vDo
    have hb : ([a].any fun x => !decide (isV x)) = false := by simp [ha]
    rw [hb]
    simp [ht]
  unfold value_Do.f
  show some ((vDo op [a]).1.1, (vDo op [a]).1.2, (vDo op [a]).2) = _
  rw [e]
/-- What an operation of two values comes to. -/
def vTwo (F : V → V → V) (a b : V) : V := if a.1 = 2 ∨ b.1 = 2 then (2, 0) else F a b
theorem do_2 {op : ByteArray} {F : V → V → V} (ht : tab2.lookup op = some F) {a b : V} (ha : isV a) (hb : isV b) : value_Do.f op [⟨a.1, a.2⟩, ⟨b.1, b.2⟩] = some ((vTwo F a b).1, (vTwo F a b).2, 0) := by
  have e : vDo op [a, b] = (vTwo F a b, 0) := by
    unfold vDo vTwo
    have hn : ([a, b].any fun x => !decide (isV x)) = false := by simp [ha, hb]
    rw [hn]
    simp only [Bool.false_eq_true, if_false, ht]
    split <;> rfl
  unfold value_Do.f
  show some ((vDo op [a, b]).1.1, (vDo op [a, b]).1.2, (vDo op [a, b]).2) = _
  rw [e]
end Go.Proofs.YtcmiehddjgfjaaaGreatDoor.A
namespace Go.Proofs.YtcmiehddjgfjaaaGreatDoor.A
open Go.RowKit Go.Proofs.YtcmiehddjgfjaaaGreatDoorW.PrintWords Go.Proofs.YtcmiehddjgfjaaaGreatDoorW.PrintLast Go.Proofs.YtcmiehddjgfjaaaGreatDoorW.PrintMore Go.Proofs.YtcmiehddjgfjaaaGreatDoor.H Go.Sort
set_option linter.unusedVariables false
set_option linter.unusedSimpArgs false
theorem fresh_C1 (w : World) (a1 a2 : Int) : Kd.C k25 (w.alloc (.cells #[.int .i64 a1, .int .i64 a2] 25)) (some ⟨w.heap.size, 0, none⟩) 1 [⟨a1, a2⟩] := by
  have r := blk_new w (.cells #[.int .i64 a1, .int .i64 a2] 25)
  refine ⟨rfl, by have : maxLen = 9223372036854775807 := rfl; simp, fun _ => ⟨_, rfl, fun j p hp => ?_⟩⟩
  match j, hp with
  | 0, hp =>
    injection hp with hp
    subst hp
    exact ⟨[.int .i64 a1, .int .i64 a2], rfl, k25_mk _ _, fun i u hu => by
      match i, hu with
      | 0, hu => exact (blk_cell r 0).trans hu
      | 1, hu => exact (blk_cell r 1).trans hu
      | i + 2, hu => simp at hu⟩
  | j + 1, hp => simp at hp
theorem fresh_C2 (w : World) (a1 a2 b1 b2 : Int) : Kd.C k25 (w.alloc (.cells #[.int .i64 a1, .int .i64 a2, .int .i64 b1, .int .i64 b2] 25)) (some ⟨w.heap.size, 0, none⟩) 2 [⟨a1, a2⟩, ⟨b1, b2⟩] := by
  have r := blk_new w (.cells #[.int .i64 a1, .int .i64 a2, .int .i64 b1, .int .i64 b2] 25)
  refine ⟨rfl, by have : maxLen = 9223372036854775807 := rfl; simp, fun _ => ⟨_, rfl, fun j p hp => ?_⟩⟩
  match j, hp with
  | 0, hp =>
    injection hp with hp
    subst hp
    exact ⟨[.int .i64 a1, .int .i64 a2], rfl, k25_mk _ _, fun i u hu => by
      match i, hu with
      | 0, hu => exact (blk_cell r 0).trans hu
      | 1, hu => exact (blk_cell r 1).trans hu
      | i + 2, hu => simp at hu⟩
  | 1, hp =>
    injection hp with hp
    subst hp
    exact ⟨[.int .i64 b1, .int .i64 b2], rfl, k25_mk _ _, fun i u hu => by
      match i, hu with
      | 0, hu => exact (blk_cell r 2).trans hu
      | 1, hu => exact (blk_cell r 3).trans hu
      | i + 2, hu => simp at hu⟩
  | j + 2, hp => simp at hp
/-- value.Do of one value that was laid into a slice just now. -/
theorem do1_fresh {op : ByteArray} {F : V → V} (ht : tab1.lookup op = some F) {a : V} (ha : isV a) {r : V} (hr : F a = r) (w : World) :
    Calls Tryz.prog 11 #[.string op, .slice (some ⟨w.heap.size, 0, none⟩) 1 1] (w.alloc (.cells #[.int .i64 a.1, .int .i64 a.2] 25)) fun e w' => e = .returned (.tuple #[.agg #[.int .i64 r.1, .int .i64 r.2], .int .i64 0]) ∧ Below w.heap.size w w' := by
  subst hr
  exact (value_Do.calls op _ 1 [⟨a.1, a.2⟩] _ _ _ _ (fresh_C1 w a.1 a.2) (Nat.le_refl _) (do_1 ht ha)).mono fun e w' ⟨he, hb⟩ => ⟨he, (below_one w _).trans (hb.mono (below_one w _).size)⟩
/-- value.Do of two values that were laid into a slice just now. -/
theorem do2_fresh {op : ByteArray} {F : V → V → V} (ht : tab2.lookup op = some F) {a b : V} (ha : isV a) (hb : isV b) {r : V} (hr : vTwo F a b = r) (w : World) :
    Calls Tryz.prog 11 #[.string op, .slice (some ⟨w.heap.size, 0, none⟩) 2 2] (w.alloc (.cells #[.int .i64 a.1, .int .i64 a.2, .int .i64 b.1, .int .i64 b.2] 25)) fun e w' => e = .returned (.tuple #[.agg #[.int .i64 r.1, .int .i64 r.2], .int .i64 0]) ∧ Below w.heap.size w w' := by
  subst hr
  exact (value_Do.calls op _ 2 [⟨a.1, a.2⟩, ⟨b.1, b.2⟩] _ _ _ _ (fresh_C2 w a.1 a.2 b.1 b.2) (Nat.le_refl _) (do_2 ht ha hb)).mono fun e w' ⟨he, hb⟩ => ⟨he, (below_one w _).trans (hb.mono (below_one w _).size)⟩
/-- A world in which nothing that was has turned. -/
structure Bw (w0 : World) where
  w : World
  h : Below w0.heap.size w0 w
/-- A region that only reads and whose callees lay blocks at most: one walk, in the order of the text. -/
theorem wp_region_Bw {P : Program} {id : Nat} {Q : Exit → Act → World → Prop} {a : Act} {w : World} {l : List Oper} (hm : P.follows .mixedOrders = true) (hB : Region.lexB .any l.toArray = true)
    (h : wpQuiet P l.toArray (fun w' => ∃ p : Bw w, w' = p.w) (fun a' => ∀ w', (∃ p : Bw w, w' = p.w) → Q .normal a' w') l a) : (Code.region id l.toArray true).wp P Q a w :=
  wp_region_quiet (C := fun w' => ∃ p : Bw w, w' = p.w) hm hB ⟨⟨_, (Below.refl _ _).drew⟩, rfl⟩ (by simpa using h)
instance (w : World) : Inhabited (Bw w) := ⟨⟨w, Below.refl _ _⟩⟩
theorem Bw.at {P : Program} {f : Nat} {args : Array Value} {v : Value} {w0 : World} (p : Bw w0) (h : Calls P f args p.w fun e w' => e = .returned v ∧ Below p.w.heap.size p.w w') : Calls P f args p.w fun e w' => e = .returned v ∧ ∃ q : Bw w0, w' = q.w :=
  h.mono fun _ _ ⟨he, hb⟩ => ⟨he, ⟨_, p.h.trans (hb.mono p.h.size)⟩, rfl⟩
theorem Bw.cell {w0 : World} (p : Bw w0) {a : Addr} {v : Value} (h : w0.cell? a = some v) : p.w.cell? a = some v := pw_cell_below p.h h
/-- Boxes that stand: each a block of its own with a value's two cells. -/
structure Bx (w : World) (L : List (Nat × Int × Int)) (w1 : World) : Prop where
  b : Below w.heap.size w w1
  r : ∀ x ∈ L, w1.heap[x.1]? = some (.cells #[.int .i64 x.2.1, .int .i64 x.2.2] 25 (0, 0))
theorem Bx.start (w : World) : Bx w [] w := ⟨Below.refl _ _, fun x h => by cases h⟩
theorem Bx.below {w w1 w2 : World} {L : List (Nat × Int × Int)} (h : Bx w L w1) (hb : Below w1.heap.size w1 w2) : Bx w L w2 :=
  ⟨h.b.trans (hb.mono h.b.size), fun x hx => row_below hb (h.r x hx)⟩
theorem Bx.alloc {w w1 : World} {L : List (Nat × Int × Int)} (h : Bx w L w1) (o : Obj) : Bx w L (w1.alloc o) := h.below (below_one w1 o)
theorem Bx.drewN {w w1 : World} {L : List (Nat × Int × Int)} (h : Bx w L w1) (n : Nat) : Bx w L (w1.drewN n) := h.below (pw_below_drewN (Below.refl _ _) n)
theorem Bx.push {w w1 : World} {L : List (Nat × Int × Int)} (h : Bx w L w1) (a b : Int) : Bx w ((w1.heap.size, a, b) :: L) (w1.alloc (.cells #[.int .i64 a, .int .i64 b] 25)) :=
  ⟨(h.alloc _).b, fun x hx => by
    rcases List.mem_cons.1 hx with rfl | hx
    · exact blk_new w1 _
    · exact (h.alloc _).r x hx⟩
theorem Bx.c0 {w w1 : World} {L : List (Nat × Int × Int)} (h : Bx w L w1) {n : Nat} {a b : Int} (hx : (n, a, b) ∈ L) : w1.cell? ⟨n, 0, none⟩ = some (.int .i64 a) := (blk_cell (h.r _ hx) 0).trans rfl
theorem Bx.c1 {w w1 : World} {L : List (Nat × Int × Int)} (h : Bx w L w1) {n : Nat} {a b : Int} (hx : (n, a, b) ∈ L) : w1.cell? ⟨n, 1, none⟩ = some (.int .i64 b) := (blk_cell (h.r _ hx) 1).trans rfl
theorem num_in (n : Int) (h0 : -1000000000000000 ≤ n) (h1 : n ≤ 1000000000000000) (w : World) : Calls Tryz.prog 19 #[.int .i64 n] w fun e w' => e = .returned (.agg #[.int .i64 1, .int .i64 n]) ∧ Below w.heap.size w w' := by
  have h := num_calls n w
  have e : vNum n = (1, n) := by unfold vNum; rw [if_neg (by omega), if_neg (by omega)]
  rw [e] at h
  exact h
end Go.Proofs.YtcmiehddjgfjaaaGreatDoor.A
namespace Go.Proofs.YtcmiehddjgfjaaaGreatDoor.A
open Go.RowKit Go.Proofs.YtcmiehddjgfjaaaGreatDoorW.PrintWords Go.Proofs.YtcmiehddjgfjaaaGreatDoorW.PrintLast Go.Proofs.YtcmiehddjgfjaaaGreatDoorW.PrintMore
attribute [local go_sem] max2_int min2_int max_two min_two max_three min_three max_four min_four   -- for this text's walks alone
set_option linter.unusedVariables false
set_option linter.unusedSimpArgs false
def klaxonref08_Plus.f  : Option (Int × Int) := some (4, 0)
set_option maxHeartbeats 8000000 in
set_option maxRecDepth 100000 in
theorem klaxonref08_Plus.calls  (r1 : Int) (r2 : Int) (w : World) (h : klaxonref08_Plus.f  = some (r1, r2)) :
    Calls Tryz.prog 28 #[] w fun e w' => e = .returned (.agg #[.int .i64 r1, .int .i64 r2]) ∧ Below w.heap.size w w' := by
  have hu25 := Tryz.underlying25
  have HB := Aside0.mk (Below.refl w.heap.size w)
  have H : (some (4, 0)) = some (r1, r2) := h
  clear h
  simp only [Option.some.injEq, Prod.mk.injEq] at H
  obtain ⟨rfl, rfl⟩ := H
  go_enter Tryz.func28, Tryz.ntmps28
  go_wp2_with (first | ((with_reducible refine gate_dst (N := 0) rfl ?_); refine box_event ?hg (N := 0) ?hd (cs := #[.int .i64 0, .int .i64 0]) (t := 25) ?hr ?_; (case hd => rfl); (case hg => rfl); (case hr => first | (go_simp; done) | (go_simp; rfl)); intro gb222 hg w1 hbox hb; have n0_ := Aside0.mk (below_step (by repeat (first | (with_reducible first | exact HB.out | apply below_alloc | apply pw_below_drewN | apply below_drew1) | exact HB.out)) hb); have n1_ := Aside0.mk (hbox); have n2_ := Aside0.mk ((by rw [hg]; exact (below_size (by repeat (first | (with_reducible first | exact HB.out | apply below_alloc | apply pw_below_drewN | apply below_drew1) | exact HB.out))) : w.heap.size ≤ gb222)); have n3_ := Aside0.mk ((by rw [hg]; exact (below_size (by repeat (first | (with_reducible first | exact HB.out | apply below_alloc | apply pw_below_drewN | apply below_drew1) | exact HB.out))) : w.heap.size ≤ gb222)); clear HB; have HB := n0_; have BK222 := n1_; have GW222 := n2_; have GE222 := n3_; clear n0_ n1_ n2_ n3_; clear hb hbox hg; have hcz2_0 : w1.cell? ⟨gb222, 0, none⟩ = some (.int .i64 0) := (blk_cell BK222.out 0).trans rfl; have hcz2_1 : w1.cell? ⟨gb222, 1, none⟩ = some (.int .i64 0) := (blk_cell BK222.out 1).trans rfl; have hfz2_0 := blk_frozen BK222.out 0; have hfz2_1 := blk_frozen BK222.out 1))
  refine bodyPost_ret (results_cell_row rfl _ _ gb222 25 #[.int .i64 4, .int .i64 0] (0, 0) _ rfl (by (with_reducible repeat (first | refine blk_drewN ?_ _ | refine blk_drew ?_ | refine blk_alloc ?_ _)); refine blk_put (cs := #[.int .i64 4, .int .i64 0]) ?_ 1 _ rfl; (with_reducible repeat (first | refine blk_drewN ?_ _ | refine blk_drew ?_ | refine blk_alloc ?_ _)); refine blk_put (cs := #[.int .i64 0, .int .i64 0]) ?_ 0 _ rfl; (with_reducible repeat (first | refine blk_drewN ?_ _ | refine blk_drew ?_ | refine blk_alloc ?_ _)); exact BK222.out) Tryz.underlying25 rfl (by kernel_rfl)) rfl ?_
  exact ⟨by first | rfl | (simp [errW_none, errW_some] <;> rfl) | (simp [*, errW_none, errW_some] <;> rfl), by repeat (first | (with_reducible first | exact HB.out | apply below_alloc | apply pw_below_drewN | apply below_drew1 | refine below_set ?_ GE222.out) | exact HB.out)⟩
def klaxonref08_Minus.f  : Option (Int × Int) := some (5, 0)
set_option maxHeartbeats 8000000 in
set_option maxRecDepth 100000 in
theorem klaxonref08_Minus.calls  (r1 : Int) (r2 : Int) (w : World) (h : klaxonref08_Minus.f  = some (r1, r2)) :
    Calls Tryz.prog 30 #[] w fun e w' => e = .returned (.agg #[.int .i64 r1, .int .i64 r2]) ∧ Below w.heap.size w w' := by
  have hu25 := Tryz.underlying25
  have HB := Aside0.mk (Below.refl w.heap.size w)
  have H : (some (5, 0)) = some (r1, r2) := h
  clear h
  simp only [Option.some.injEq, Prod.mk.injEq] at H
  obtain ⟨rfl, rfl⟩ := H
  go_enter Tryz.func30, Tryz.ntmps30
  go_wp2_with (first | ((with_reducible refine gate_dst (N := 0) rfl ?_); refine box_event ?hg (N := 0) ?hd (cs := #[.int .i64 0, .int .i64 0]) (t := 25) ?hr ?_; (case hd => rfl); (case hg => rfl); (case hr => first | (go_simp; done) | (go_simp; rfl)); intro gb223 hg w1 hbox hb; have n0_ := Aside0.mk (below_step (by repeat (first | (with_reducible first | exact HB.out | apply below_alloc | apply pw_below_drewN | apply below_drew1) | exact HB.out)) hb); have n1_ := Aside0.mk (hbox); have n2_ := Aside0.mk ((by rw [hg]; exact (below_size (by repeat (first | (with_reducible first | exact HB.out | apply below_alloc | apply pw_below_drewN | apply below_drew1) | exact HB.out))) : w.heap.size ≤ gb223)); have n3_ := Aside0.mk ((by rw [hg]; exact (below_size (by repeat (first | (with_reducible first | exact HB.out | apply below_alloc | apply pw_below_drewN | apply below_drew1) | exact HB.out))) : w.heap.size ≤ gb223)); clear HB; have HB := n0_; have BK223 := n1_; have GW223 := n2_; have GE223 := n3_; clear n0_ n1_ n2_ n3_; clear hb hbox hg; have hcz2_0 : w1.cell? ⟨gb223, 0, none⟩ = some (.int .i64 0) := (blk_cell BK223.out 0).trans rfl; have hcz2_1 : w1.cell? ⟨gb223, 1, none⟩ = some (.int .i64 0) := (blk_cell BK223.out 1).trans rfl; have hfz2_0 := blk_frozen BK223.out 0; have hfz2_1 := blk_frozen BK223.out 1))
  refine bodyPost_ret (results_cell_row rfl _ _ gb223 25 #[.int .i64 5, .int .i64 0] (0, 0) _ rfl (by (with_reducible repeat (first | refine blk_drewN ?_ _ | refine blk_drew ?_ | refine blk_alloc ?_ _)); refine blk_put (cs := #[.int .i64 5, .int .i64 0]) ?_ 1 _ rfl; (with_reducible repeat (first | refine blk_drewN ?_ _ | refine blk_drew ?_ | refine blk_alloc ?_ _)); refine blk_put (cs := #[.int .i64 0, .int .i64 0]) ?_ 0 _ rfl; (with_reducible repeat (first | refine blk_drewN ?_ _ | refine blk_drew ?_ | refine blk_alloc ?_ _)); exact BK223.out) Tryz.underlying25 rfl (by kernel_rfl)) rfl ?_
  exact ⟨by first | rfl | (simp [errW_none, errW_some] <;> rfl) | (simp [*, errW_none, errW_some] <;> rfl), by repeat (first | (with_reducible first | exact HB.out | apply below_alloc | apply pw_below_drewN | apply below_drew1 | refine below_set ?_ GE223.out) | exact HB.out)⟩
def klaxonref08_Num.f (a0 : Int) : Option (Int × Int) := if a0 > 1000000000000000 then ((klaxonref08_Plus.f).bind fun bt225 => (some (bt225.1, bt225.2))) else (if a0 < (-1000000000000000) then ((klaxonref08_Minus.f).bind fun bt227 => (some (bt227.1, bt227.2))) else (some (1, a0)))
set_option maxHeartbeats 8000000 in
set_option maxRecDepth 100000 in
theorem klaxonref08_Num.calls (a0 : Int) (r1 : Int) (r2 : Int) (w : World) (h : klaxonref08_Num.f a0 = some (r1, r2)) :
    Calls Tryz.prog 20 #[.int .i64 a0] w fun e w' => e = .returned (.agg #[.int .i64 r1, .int .i64 r2]) ∧ Below w.heap.size w w' := by
  have hu25 := Tryz.underlying25
  have HB := Aside0.mk (Below.refl w.heap.size w)
  have H : (if a0 > 1000000000000000 then ((klaxonref08_Plus.f).bind fun bt225 => (some (bt225.1, bt225.2))) else (if a0 < (-1000000000000000) then ((klaxonref08_Minus.f).bind fun bt227 => (some (bt227.1, bt227.2))) else (some (1, a0)))) = some (r1, r2) := h
  clear h
  by_cases c2 : a0 > 1000000000000000
  · rw [if_pos c2] at H
    have c2b0 : decide (1000000000000000 < a0) = true := decide_eq_true c2
    clear c2
    replace H := Option.bind_eq_some_iff.mp H
    obtain ⟨⟨t225, t226⟩, A30, H⟩ := H
    replace H : (some (t225, t226)) = some (r1, r2) := H
    have A3 := Aside0.mk A30
    clear A30
    simp only [Option.some.injEq, Prod.mk.injEq] at H
    obtain ⟨rfl, rfl⟩ := H
    go_enter Tryz.func20, Tryz.ntmps20
    go_wp2_with (first | ((with_reducible refine gate_dst (N := 2) rfl ?_); refine box_event ?hg (N := 2) ?hd (cs := #[.int .i64 0, .int .i64 0]) (t := 25) ?hr ?_; (case hd => rfl); (case hg => rfl); (case hr => first | (go_simp; done) | (go_simp; rfl)); intro gb224 hg w4 hbox hb; have n0_ := Aside0.mk (below_step (by repeat (first | (with_reducible first | exact HB.out | apply below_alloc | apply pw_below_drewN | apply below_drew1) | exact HB.out)) hb); have n1_ := Aside0.mk (hbox); have n2_ := Aside0.mk ((by rw [hg]; exact (below_size (by repeat (first | (with_reducible first | exact HB.out | apply below_alloc | apply pw_below_drewN | apply below_drew1) | exact HB.out))) : w.heap.size ≤ gb224)); have n3_ := Aside0.mk ((by rw [hg]; exact (below_size (by repeat (first | (with_reducible first | exact HB.out | apply below_alloc | apply pw_below_drewN | apply below_drew1) | exact HB.out))) : w.heap.size ≤ gb224)); clear HB; have HB := n0_; have BK224 := n1_; have GW224 := n2_; have GE224 := n3_; clear n0_ n1_ n2_ n3_; clear hb hbox hg) | ((with_reducible refine gate_callee (f := 28) rfl ?_); refine goesL_ (some 5) rfl rfl Tryz.func28 (by kernel_rfl) rfl #[] rfl (by (try simp only [List.map_toArray, List.map_cons, List.map_nil]); first | done | rfl | (simp only [List.length_drop, List.length_take]; rfl)) ?_; (with_reducible refine (klaxonref08_Plus.calls  t225 t226 _ A3.out).mono ?_); rintro e w5 ⟨rfl, hb⟩; refine ⟨_, rfl, ?_⟩; have n0_ := Aside0.mk (blk_below (g := gb224) (o := .cells #[.int .i64 0, .int .i64 0] 25 (0, 0)) (by (with_reducible repeat (first | refine blk_drewN ?_ _ | refine blk_drew ?_ | refine blk_alloc ?_ _)); exact BK224.out) hb); have n1_ := Aside0.mk (below_step (by repeat (first | (with_reducible first | exact HB.out | apply below_alloc | apply pw_below_drewN | apply below_drew1 | refine below_set ?_ GE224.out) | exact HB.out)) hb); clear BK224; clear HB; have BK224 := n0_; have HB := n1_; clear n0_ n1_; (try clear hb); (try clear hb2); (try clear hk); (try clear hi); have hcz6_0 : w5.cell? ⟨gb224, 0, none⟩ = some (.int .i64 0) := (blk_cell BK224.out 0).trans rfl; have hcz6_1 : w5.cell? ⟨gb224, 1, none⟩ = some (.int .i64 0) := (blk_cell BK224.out 1).trans rfl; have hfz6_0 := blk_frozen BK224.out 0; have hfz6_1 := blk_frozen BK224.out 1))
    refine bodyPost_ret (results_cell_row rfl _ _ gb224 25 #[.int .i64 t225, .int .i64 t226] (0, 0) _ rfl (by (with_reducible repeat (first | refine blk_drewN ?_ _ | refine blk_drew ?_ | refine blk_alloc ?_ _)); refine blk_put (cs := #[.int .i64 t225, .int .i64 0]) ?_ 1 _ rfl; (with_reducible repeat (first | refine blk_drewN ?_ _ | refine blk_drew ?_ | refine blk_alloc ?_ _)); refine blk_put (cs := #[.int .i64 0, .int .i64 0]) ?_ 0 _ rfl; (with_reducible repeat (first | refine blk_drewN ?_ _ | refine blk_drew ?_ | refine blk_alloc ?_ _)); exact BK224.out) Tryz.underlying25 rfl (by kernel_rfl)) rfl ?_
    exact ⟨by first | rfl | (simp [errW_none, errW_some] <;> rfl) | (simp [*, errW_none, errW_some] <;> rfl), by repeat (first | (with_reducible first | exact HB.out | apply below_alloc | apply pw_below_drewN | apply below_drew1 | refine below_set ?_ GE224.out) | exact HB.out)⟩
  · rw [if_neg c2] at H
    have c2b0 : decide (1000000000000000 < a0) = false := decide_eq_false c2
    clear c2
    by_cases c7 : a0 < (-1000000000000000)
    · rw [if_pos c7] at H
      have c7b0 : decide (a0 < (-1000000000000000)) = true := decide_eq_true c7
      clear c7
      replace H := Option.bind_eq_some_iff.mp H
      obtain ⟨⟨t227, t228⟩, A80, H⟩ := H
      replace H : (some (t227, t228)) = some (r1, r2) := H
      have A8 := Aside0.mk A80
      clear A80
      simp only [Option.some.injEq, Prod.mk.injEq] at H
      obtain ⟨rfl, rfl⟩ := H
      go_enter Tryz.func20, Tryz.ntmps20
      go_wp2_with (first | ((with_reducible refine gate_dst (N := 2) rfl ?_); refine box_event ?hg (N := 2) ?hd (cs := #[.int .i64 0, .int .i64 0]) (t := 25) ?hr ?_; (case hd => rfl); (case hg => rfl); (case hr => first | (go_simp; done) | (go_simp; rfl)); intro gb224 hg w9 hbox hb; have n0_ := Aside0.mk (below_step (by repeat (first | (with_reducible first | exact HB.out | apply below_alloc | apply pw_below_drewN | apply below_drew1) | exact HB.out)) hb); have n1_ := Aside0.mk (hbox); have n2_ := Aside0.mk ((by rw [hg]; exact (below_size (by repeat (first | (with_reducible first | exact HB.out | apply below_alloc | apply pw_below_drewN | apply below_drew1) | exact HB.out))) : w.heap.size ≤ gb224)); have n3_ := Aside0.mk ((by rw [hg]; exact (below_size (by repeat (first | (with_reducible first | exact HB.out | apply below_alloc | apply pw_below_drewN | apply below_drew1) | exact HB.out))) : w.heap.size ≤ gb224)); clear HB; have HB := n0_; have BK224 := n1_; have GW224 := n2_; have GE224 := n3_; clear n0_ n1_ n2_ n3_; clear hb hbox hg) | ((with_reducible refine gate_callee (f := 30) rfl ?_); refine goesL_ (some 8) rfl rfl Tryz.func30 (by kernel_rfl) rfl #[] rfl (by (try simp only [List.map_toArray, List.map_cons, List.map_nil]); first | done | rfl | (simp only [List.length_drop, List.length_take]; rfl)) ?_; (with_reducible refine (klaxonref08_Minus.calls  t227 t228 _ A8.out).mono ?_); rintro e w10 ⟨rfl, hb⟩; refine ⟨_, rfl, ?_⟩; have n0_ := Aside0.mk (blk_below (g := gb224) (o := .cells #[.int .i64 0, .int .i64 0] 25 (0, 0)) (by (with_reducible repeat (first | refine blk_drewN ?_ _ | refine blk_drew ?_ | refine blk_alloc ?_ _)); exact BK224.out) hb); have n1_ := Aside0.mk (below_step (by repeat (first | (with_reducible first | exact HB.out | apply below_alloc | apply pw_below_drewN | apply below_drew1 | refine below_set ?_ GE224.out) | exact HB.out)) hb); clear BK224; clear HB; have BK224 := n0_; have HB := n1_; clear n0_ n1_; (try clear hb); (try clear hb2); (try clear hk); (try clear hi); have hcz11_0 : w10.cell? ⟨gb224, 0, none⟩ = some (.int .i64 0) := (blk_cell BK224.out 0).trans rfl; have hcz11_1 : w10.cell? ⟨gb224, 1, none⟩ = some (.int .i64 0) := (blk_cell BK224.out 1).trans rfl; have hfz11_0 := blk_frozen BK224.out 0; have hfz11_1 := blk_frozen BK224.out 1))
      refine bodyPost_ret (results_cell_row rfl _ _ gb224 25 #[.int .i64 t227, .int .i64 t228] (0, 0) _ rfl (by (with_reducible repeat (first | refine blk_drewN ?_ _ | refine blk_drew ?_ | refine blk_alloc ?_ _)); refine blk_put (cs := #[.int .i64 t227, .int .i64 0]) ?_ 1 _ rfl; (with_reducible repeat (first | refine blk_drewN ?_ _ | refine blk_drew ?_ | refine blk_alloc ?_ _)); refine blk_put (cs := #[.int .i64 0, .int .i64 0]) ?_ 0 _ rfl; (with_reducible repeat (first | refine blk_drewN ?_ _ | refine blk_drew ?_ | refine blk_alloc ?_ _)); exact BK224.out) Tryz.underlying25 rfl (by kernel_rfl)) rfl ?_
      exact ⟨by first | rfl | (simp [errW_none, errW_some] <;> rfl) | (simp [*, errW_none, errW_some] <;> rfl), by repeat (first | (with_reducible first | exact HB.out | apply below_alloc | apply pw_below_drewN | apply below_drew1 | refine below_set ?_ GE224.out) | exact HB.out)⟩
    · rw [if_neg c7] at H
      have c7b0 : decide (a0 < (-1000000000000000)) = false := decide_eq_false c7
      clear c7
      simp only [Option.some.injEq, Prod.mk.injEq] at H
      obtain ⟨rfl, rfl⟩ := H
      go_enter Tryz.func20, Tryz.ntmps20
      go_wp2_with (first | ((with_reducible refine gate_dst (N := 2) rfl ?_); refine box_event ?hg (N := 2) ?hd (cs := #[.int .i64 0, .int .i64 0]) (t := 25) ?hr ?_; (case hd => rfl); (case hg => rfl); (case hr => first | (go_simp; done) | (go_simp; rfl)); intro gb224 hg w12 hbox hb; have n0_ := Aside0.mk (below_step (by repeat (first | (with_reducible first | exact HB.out | apply below_alloc | apply pw_below_drewN | apply below_drew1) | exact HB.out)) hb); have n1_ := Aside0.mk (hbox); have n2_ := Aside0.mk ((by rw [hg]; exact (below_size (by repeat (first | (with_reducible first | exact HB.out | apply below_alloc | apply pw_below_drewN | apply below_drew1) | exact HB.out))) : w.heap.size ≤ gb224)); have n3_ := Aside0.mk ((by rw [hg]; exact (below_size (by repeat (first | (with_reducible first | exact HB.out | apply below_alloc | apply pw_below_drewN | apply below_drew1) | exact HB.out))) : w.heap.size ≤ gb224)); clear HB; have HB := n0_; have BK224 := n1_; have GW224 := n2_; have GE224 := n3_; clear n0_ n1_ n2_ n3_; clear hb hbox hg; have hcz13_0 : w12.cell? ⟨gb224, 0, none⟩ = some (.int .i64 0) := (blk_cell BK224.out 0).trans rfl; have hcz13_1 : w12.cell? ⟨gb224, 1, none⟩ = some (.int .i64 0) := (blk_cell BK224.out 1).trans rfl; have hfz13_0 := blk_frozen BK224.out 0; have hfz13_1 := blk_frozen BK224.out 1))
      refine bodyPost_ret (results_cell_row rfl _ _ gb224 25 #[.int .i64 1, .int .i64 a0] (0, 0) _ rfl (by (with_reducible repeat (first | refine blk_drewN ?_ _ | refine blk_drew ?_ | refine blk_alloc ?_ _)); refine blk_put (cs := #[.int .i64 1, .int .i64 0]) ?_ 1 _ rfl; (with_reducible repeat (first | refine blk_drewN ?_ _ | refine blk_drew ?_ | refine blk_alloc ?_ _)); refine blk_put (cs := #[.int .i64 0, .int .i64 0]) ?_ 0 _ rfl; (with_reducible repeat (first | refine blk_drewN ?_ _ | refine blk_drew ?_ | refine blk_alloc ?_ _)); exact BK224.out) Tryz.underlying25 rfl (by kernel_rfl)) rfl ?_
      exact ⟨by first | rfl | (simp [errW_none, errW_some] <;> rfl) | (simp [*, errW_none, errW_some] <;> rfl), by repeat (first | (with_reducible first | exact HB.out | apply below_alloc | apply pw_below_drewN | apply below_drew1 | refine below_set ?_ GE224.out) | exact HB.out)⟩
end Go.Proofs.YtcmiehddjgfjaaaGreatDoor.A
namespace Go.Proofs.YtcmiehddjgfjaaaGreatDoor.A
open Go.RowKit Go.Proofs.YtcmiehddjgfjaaaGreatDoorW.PrintWords Go.Proofs.YtcmiehddjgfjaaaGreatDoorW.PrintLast Go.Proofs.YtcmiehddjgfjaaaGreatDoorW.PrintMore
attribute [local go_sem] max2_int min2_int max_two min_two max_three min_three max_four min_four   -- for this text's walks alone
set_option linter.unusedVariables false
set_option linter.unusedSimpArgs false
def klaxonref08_Null.f  : Option (Int × Int) := some (2, 0)
set_option maxHeartbeats 8000000 in
set_option maxRecDepth 100000 in
theorem klaxonref08_Null.calls  (r1 : Int) (r2 : Int) (w : World) (h : klaxonref08_Null.f  = some (r1, r2)) :
    Calls Tryz.prog 24 #[] w fun e w' => e = .returned (.agg #[.int .i64 r1, .int .i64 r2]) ∧ Below w.heap.size w w' := by
  have hu25 := Tryz.underlying25
  have HB := Aside0.mk (Below.refl w.heap.size w)
  have H : (some (2, 0)) = some (r1, r2) := h
  clear h
  simp only [Option.some.injEq, Prod.mk.injEq] at H
  obtain ⟨rfl, rfl⟩ := H
  go_enter Tryz.func24, Tryz.ntmps24
  go_wp2_with (first | ((with_reducible refine gate_dst (N := 0) rfl ?_); refine box_event ?hg (N := 0) ?hd (cs := #[.int .i64 0, .int .i64 0]) (t := 25) ?hr ?_; (case hd => rfl); (case hg => rfl); (case hr => first | (go_simp; done) | (go_simp; rfl)); intro gb266 hg w1 hbox hb; have n0_ := Aside0.mk (below_step (by repeat (first | (with_reducible first | exact HB.out | apply below_alloc | apply pw_below_drewN | apply below_drew1) | exact HB.out)) hb); have n1_ := Aside0.mk (hbox); have n2_ := Aside0.mk ((by rw [hg]; exact (below_size (by repeat (first | (with_reducible first | exact HB.out | apply below_alloc | apply pw_below_drewN | apply below_drew1) | exact HB.out))) : w.heap.size ≤ gb266)); have n3_ := Aside0.mk ((by rw [hg]; exact (below_size (by repeat (first | (with_reducible first | exact HB.out | apply below_alloc | apply pw_below_drewN | apply below_drew1) | exact HB.out))) : w.heap.size ≤ gb266)); clear HB; have HB := n0_; have BK266 := n1_; have GW266 := n2_; have GE266 := n3_; clear n0_ n1_ n2_ n3_; clear hb hbox hg; have hcz2_0 : w1.cell? ⟨gb266, 0, none⟩ = some (.int .i64 0) := (blk_cell BK266.out 0).trans rfl; have hcz2_1 : w1.cell? ⟨gb266, 1, none⟩ = some (.int .i64 0) := (blk_cell BK266.out 1).trans rfl; have hfz2_0 := blk_frozen BK266.out 0; have hfz2_1 := blk_frozen BK266.out 1))
  refine bodyPost_ret (results_cell_row rfl _ _ gb266 25 #[.int .i64 2, .int .i64 0] (0, 0) _ rfl (by (with_reducible repeat (first | refine blk_drewN ?_ _ | refine blk_drew ?_ | refine blk_alloc ?_ _)); refine blk_put (cs := #[.int .i64 2, .int .i64 0]) ?_ 1 _ rfl; (with_reducible repeat (first | refine blk_drewN ?_ _ | refine blk_drew ?_ | refine blk_alloc ?_ _)); refine blk_put (cs := #[.int .i64 0, .int .i64 0]) ?_ 0 _ rfl; (with_reducible repeat (first | refine blk_drewN ?_ _ | refine blk_drew ?_ | refine blk_alloc ?_ _)); exact BK266.out) Tryz.underlying25 rfl (by kernel_rfl)) rfl ?_
  exact ⟨by first | rfl | (simp [errW_none, errW_some] <;> rfl) | (simp [*, errW_none, errW_some] <;> rfl), by repeat (first | (with_reducible first | exact HB.out | apply below_alloc | apply pw_below_drewN | apply below_drew1 | refine below_set ?_ GE266.out) | exact HB.out)⟩
end Go.Proofs.YtcmiehddjgfjaaaGreatDoor.A
namespace Go.Proofs.YtcmiehddjgfjaaaGreatDoor.A
open Go.RowKit Go.Proofs.YtcmiehddjgfjaaaGreatDoorW.PrintWords Go.Proofs.YtcmiehddjgfjaaaGreatDoorW.PrintLast Go.Proofs.YtcmiehddjgfjaaaGreatDoorW.PrintMore Go.Proofs.YtcmiehddjgfjaaaGreatDoor.H Go.Sort
set_option linter.unusedVariables false
set_option linter.unusedSimpArgs false
attribute [local go_sem high] eqA25
theorem vPrint_live : vPrint (1, -12050) = [45, 49, 50, 46, 48, 53] := by
  have hv : isV (1, -12050) := .inl ⟨rfl, by decide, by decide⟩
  unfold vPrint
  rw [if_pos hv]
  unfold pText
  simp only
  rw [if_neg (by decide), if_neg (by decide), if_neg (by decide), if_neg (by decide), if_pos (by decide)]
  rw [show (-(-12050) : Int) = ((12050 : Nat) : Int) by decide, pBody_nat]
  unfold nBody
  rw [if_pos (by decide), show 12050 / 1000 = 12 by decide, dec_big (by decide), dec_small (by decide)]
  rfl
theorem vParse_live : vParse [45, 49, 50, 46, 48, 53] = ((1, -12050), 0) := by
  have hv : isV (1, -12050) := .inl ⟨rfl, by decide, by decide⟩
  have h := parse_print (1, -12050) hv
  rw [vPrint_live] at h
  exact h
theorem parse_lit (w : World) (G : Glob w) : Calls Tryz.prog 31 #[.string ⟨#[45, 49, 50, 46, 48, 53]⟩] w fun e w' => e = .returned (.tuple #[.agg #[.int .i64 1, .int .i64 (-12050)], .int .i64 0]) ∧ Below w.heap.size w w' := by
  have h := parse_calls ⟨#[45, 49, 50, 46, 48, 53]⟩ (by decide) w G
  rw [show (⟨#[45, 49, 50, 46, 48, 53]⟩ : ByteArray).toList = [45, 49, 50, 46, 48, 53] by rw [Lib.toList_data], vParse_live] at h
  exact h
theorem print_lit (w : World) (G : Glob w) : Calls Tryz.prog 33 #[.agg #[.int .i64 1, .int .i64 (-12050)]] w fun e w' => e = .returned (.string ⟨#[45, 49, 50, 46, 48, 53]⟩) ∧ Below w.heap.size w w' := by
  have h := print_calls 1 (-12050) w G
  rw [vPrint_live] at h
  exact h
theorem numl_calls (n : Int) (w : World) : Calls Tryz.prog 16 #[.int .i64 n] w fun e w' => e = .returned (.int .i64 n) ∧ w = w' := by
  go_enter Tryz.func16, Tryz.ntmps16
  go_wp2
  go_ret
  exact ⟨rfl, rfl⟩
theorem check_bad (w : World) : Calls Tryz.prog 17 #[.slice (some ⟨w.heap.size, 0, none⟩) 1 1] (w.alloc (.cells #[.int .i64 0, .int .i64 0] 25)) fun e w' => e = .returned (.int .i64 80) ∧ Below w.heap.size w w' := by
  have hc : value_Check.f [⟨0, 0⟩] = some 80 := by
    unfold value_Check.f
    have : badV (⟨0, 0⟩ : S25) = true := by unfold badV sv isV; simp
    simp [this]
  exact (value_Check.calls _ 1 [⟨0, 0⟩] 80 _ (fresh_C1 w 0 0) (Nat.le_refl _) hc).mono fun e w' ⟨he, hb⟩ => ⟨he, (below_one w _).trans (hb.mono (below_one w _).size)⟩
theorem r333_calls (w : World) : Calls Tryz.prog 20 #[.int .i64 333] w fun e w' => e = .returned (.agg #[.int .i64 1, .int .i64 333]) ∧ Below w.heap.size w w' := klaxonref08_Num.calls 333 1 333 w (by first | rfl | (unfold klaxonref08_Num.f; simp))
theorem r1000_calls (w : World) : Calls Tryz.prog 20 #[.int .i64 1000] w fun e w' => e = .returned (.agg #[.int .i64 1, .int .i64 1000]) ∧ Below w.heap.size w w' := klaxonref08_Num.calls 1000 1 1000 w (by first | rfl | (unfold klaxonref08_Num.f; simp))
theorem rneg_calls (w : World) : Calls Tryz.prog 20 #[.int .i64 (-12050)] w fun e w' => e = .returned (.agg #[.int .i64 1, .int .i64 (-12050)]) ∧ Below w.heap.size w w' := klaxonref08_Num.calls (-12050) 1 (-12050) w (by first | rfl | (unfold klaxonref08_Num.f; simp))
theorem rminus_calls (w : World) : Calls Tryz.prog 30 #[] w fun e w' => e = .returned (.agg #[.int .i64 5, .int .i64 0]) ∧ Below w.heap.size w w' := klaxonref08_Minus.calls  5 0 w (by first | rfl | (unfold klaxonref08_Num.f; simp))
theorem rnull_calls (w : World) : Calls Tryz.prog 24 #[] w fun e w' => e = .returned (.agg #[.int .i64 2, .int .i64 0]) ∧ Below w.heap.size w w' := klaxonref08_Null.calls  2 0 w (by first | rfl | (unfold klaxonref08_Num.f; simp))
/-- What stands while the answers are held against each other. -/
def LiveS (w : World) (N1 N2 N3 N4 N5 : Nat) (w' : World) : Prop := Below w.heap.size w w' ∧ w'.cell? ⟨N1, 0, none⟩ = some (.int .i64 1) ∧ w'.cell? ⟨N1, 1, none⟩ = some (.int .i64 333) ∧ w'.cell? ⟨N2, 0, none⟩ = some (.int .i64 5) ∧ w'.cell? ⟨N2, 1, none⟩ = some (.int .i64 0) ∧ w'.cell? ⟨N3, 0, none⟩ = some (.int .i64 2) ∧ w'.cell? ⟨N3, 1, none⟩ = some (.int .i64 0) ∧ w'.cell? ⟨N4, 0, none⟩ = some (.int .i64 1) ∧ w'.cell? ⟨N4, 1, none⟩ = some (.int .i64 1000) ∧ w'.cell? ⟨N5, 0, none⟩ = some (.int .i64 1) ∧ w'.cell? ⟨N5, 1, none⟩ = some (.int .i64 (-12050))
theorem LiveS.below {w w1 w2 : World} {N1 N2 N3 N4 N5 : Nat} (h : LiveS w N1 N2 N3 N4 N5 w1) (hb : Below w1.heap.size w1 w2) : LiveS w N1 N2 N3 N4 N5 w2 := by
  obtain ⟨h0, h1, h2, h3, h4, h5, h6, h7, h8, h9, h10⟩ := h
  exact ⟨h0.trans (hb.mono h0.size), pw_cell_below hb h1, pw_cell_below hb h2, pw_cell_below hb h3, pw_cell_below hb h4, pw_cell_below hb h5, pw_cell_below hb h6, pw_cell_below hb h7, pw_cell_below hb h8, pw_cell_below hb h9, pw_cell_below hb h10⟩
theorem LiveS.drew {w w1 : World} {N1 N2 N3 N4 N5 : Nat} (h : LiveS w N1 N2 N3 N4 N5 w1) : LiveS w N1 N2 N3 N4 N5 w1.drew := h.below (Below.refl _ _).drew
theorem LiveS.alloc {w w1 : World} {N1 N2 N3 N4 N5 : Nat} (h : LiveS w N1 N2 N3 N4 N5 w1) (o : Obj) : LiveS w N1 N2 N3 N4 N5 (w1.alloc o) := h.below (below_one w1 o)
def klaxonlaw08_live.f : Option Bool := some true
set_option maxHeartbeats 4000000 in
set_option maxRecDepth 100000 in
theorem klaxonlaw08_live.calls (r : Bool) (w : World) (h : klaxonlaw08_live.f = some r) (G : Glob w) : Calls Tryz.prog 10 #[] w fun e w' => e = .returned (.bool r) ∧ Below w.heap.size w w' := by
  injection h with h
  subst h
  have vN : ∀ n : Int, -1000000000000000 ≤ n → n ≤ 1000000000000000 → isV (1, n) := fun n h1 h2 => .inl ⟨rfl, h1, h2⟩
  have v2 : isV (2, 0) := .inr ⟨.inl rfl, rfl⟩
  have v3 : isV (3, 0) := .inr ⟨.inr (.inl rfl), rfl⟩
  have d1 := Aside0.mk (fun w1 => do2_fresh op2_div (vN 1000 (by decide) (by decide)) (vN 3000 (by decide) (by decide)) (r := (1, 333)) rfl w1)
  have d2 := Aside0.mk (fun w1 => do2_fresh op2_div (vN (-1) (by decide) (by decide)) (vN 0 (by decide) (by decide)) (r := (5, 0)) rfl w1)
  have d3 := Aside0.mk (fun w1 => do2_fresh op2_gt v2 (vN 1 (by decide) (by decide)) (r := (2, 0)) rfl w1)
  have d4 := Aside0.mk (fun w1 => do2_fresh op2_ne v3 v3 (r := (1, 1000)) rfl w1)
  have HG := Aside0.mk G
  have HK := Aside0.mk (Bx.start w)
  clear G vN v2 v3
  go_enter Tryz.func10, Tryz.ntmps10
  go_wp2_with (first
    | (go_at_call 19; refine (num_in _ (by decide) (by decide) _).mono ?_; rintro e w1 ⟨rfl, hb1⟩; (first | have HK := Aside0.mk ((HK.out.push _ _).below hb1) | have HK := Aside0.mk (HK.out.below hb1)); clear hb1)
    | (go_at_call 23; refine (null_calls _).mono ?_; rintro e w1 ⟨rfl, hb1⟩; (first | have HK := Aside0.mk ((HK.out.push _ _).below hb1) | have HK := Aside0.mk (HK.out.below hb1)); clear hb1)
    | (go_at_call 25; refine (nan_calls _).mono ?_; rintro e w1 ⟨rfl, hb1⟩; (first | have HK := Aside0.mk ((HK.out.push _ _).below hb1) | have HK := Aside0.mk (HK.out.below hb1)); clear hb1)
    | (go_at_call 11; (with_reducible refine (d1.out _).mono ?_); rintro e u1 ⟨rfl, hb1⟩; have HK := Aside0.mk (HK.out.below hb1); clear hb1)
    | (go_at_call 11; (with_reducible refine (d2.out _).mono ?_); rintro e u2 ⟨rfl, hb1⟩; have HK := Aside0.mk (HK.out.below hb1); clear hb1)
    | (go_at_call 11; (with_reducible refine (d3.out _).mono ?_); rintro e u3 ⟨rfl, hb1⟩; have HK := Aside0.mk (HK.out.below hb1); clear hb1)
    | (go_at_call 11; (with_reducible refine (d4.out _).mono ?_); rintro e u4 ⟨rfl, hb1⟩; have HK := Aside0.mk (HK.out.below hb1); clear hb1)
    | (go_at_call 31; refine (parse_lit _ (HG.out.below (HK.out.push _ _).b)).mono ?_; rintro e u5 ⟨rfl, hb1⟩; have HK := Aside0.mk ((HK.out.push _ _).below hb1); clear hb1))
  have HK := Aside0.mk (HK.out.push 1 (-12050))
  generalize u5.alloc (.cells #[.int .i64 1, .int .i64 (-12050)] 25) = W at HK ⊢
  generalize u5.heap.size = N5 at HK ⊢
  generalize u4.heap.size = N4 at HK ⊢
  generalize u3.heap.size = N3 at HK ⊢
  generalize u2.heap.size = N2 at HK ⊢
  generalize u1.heap.size = N1 at HK ⊢
  have S0 : Below w.heap.size w W ∧ W.cell? ⟨N1, 0, none⟩ = some (.int .i64 1) ∧ W.cell? ⟨N1, 1, none⟩ = some (.int .i64 333) ∧ W.cell? ⟨N2, 0, none⟩ = some (.int .i64 5) ∧ W.cell? ⟨N2, 1, none⟩ = some (.int .i64 0) ∧ W.cell? ⟨N3, 0, none⟩ = some (.int .i64 2) ∧ W.cell? ⟨N3, 1, none⟩ = some (.int .i64 0) ∧ W.cell? ⟨N4, 0, none⟩ = some (.int .i64 1) ∧ W.cell? ⟨N4, 1, none⟩ = some (.int .i64 1000) ∧ W.cell? ⟨N5, 0, none⟩ = some (.int .i64 1) ∧ W.cell? ⟨N5, 1, none⟩ = some (.int .i64 (-12050)) :=
    ⟨HK.out.b, HK.out.c0 (n := N1) (a := 1) (b := 333) (by simp), HK.out.c1 (n := N1) (a := 1) (b := 333) (by simp), HK.out.c0 (n := N2) (a := 5) (b := 0) (by simp), HK.out.c1 (n := N2) (a := 5) (b := 0) (by simp), HK.out.c0 (n := N3) (a := 2) (b := 0) (by simp), HK.out.c1 (n := N3) (a := 2) (b := 0) (by simp), HK.out.c0 (n := N4) (a := 1) (b := 1000) (by simp), HK.out.c1 (n := N4) (a := 1) (b := 1000) (by simp), HK.out.c0 (n := N5) (a := 1) (b := -12050) (by simp), HK.out.c1 (n := N5) (a := 1) (b := -12050) (by simp)⟩
  clear HK d1 d2 d3 d4
  have S1 : LiveS w N1 N2 N3 N4 N5 W := S0
  clear S0
  go_region_held3 (fun w' => Below w.heap.size w w' ∧ w'.cell? ⟨N1, 0, none⟩ = some (.int .i64 1) ∧ w'.cell? ⟨N1, 1, none⟩ = some (.int .i64 333) ∧ w'.cell? ⟨N2, 0, none⟩ = some (.int .i64 5) ∧ w'.cell? ⟨N2, 1, none⟩ = some (.int .i64 0) ∧ w'.cell? ⟨N3, 0, none⟩ = some (.int .i64 2) ∧ w'.cell? ⟨N3, 1, none⟩ = some (.int .i64 0) ∧ w'.cell? ⟨N4, 0, none⟩ = some (.int .i64 1) ∧ w'.cell? ⟨N4, 1, none⟩ = some (.int .i64 1000) ∧ w'.cell? ⟨N5, 0, none⟩ = some (.int .i64 1) ∧ w'.cell? ⟨N5, 1, none⟩ = some (.int .i64 (-12050))) (first | exact hS | exact LiveS.drew (by assumption) | exact LiveS.alloc (by assumption) _ | go_keep)
    (first
      | (go_at_call 16; (with_reducible refine (numl_calls _ _).mono ?_); rintro e w2 ⟨rfl, rfl⟩)
      | (go_at_call 20; (with_reducible refine (r333_calls _).mono ?_); rintro e w2 ⟨rfl, hb1⟩; have hS : LiveS w N1 N2 N3 N4 N5 _ := LiveS.below (by assumption) hb1; clear hb1)
      | (go_at_call 20; (with_reducible refine (r1000_calls _).mono ?_); rintro e w2 ⟨rfl, hb1⟩; have hS : LiveS w N1 N2 N3 N4 N5 _ := LiveS.below (by assumption) hb1; clear hb1)
      | (go_at_call 20; (with_reducible refine (rneg_calls _).mono ?_); rintro e w2 ⟨rfl, hb1⟩; have hS : LiveS w N1 N2 N3 N4 N5 _ := LiveS.below (by assumption) hb1; clear hb1)
      | (go_at_call 30; (with_reducible refine (rminus_calls _).mono ?_); rintro e w2 ⟨rfl, hb1⟩; have hS : LiveS w N1 N2 N3 N4 N5 _ := LiveS.below (by assumption) hb1; clear hb1)
      | (go_at_call 24; (with_reducible refine (rnull_calls _).mono ?_); rintro e w2 ⟨rfl, hb1⟩; have hS : LiveS w N1 N2 N3 N4 N5 _ := LiveS.below (by assumption) hb1; clear hb1)
      | (go_at_call 33; refine (print_lit _ (HG.out.below (show LiveS w N1 N2 N3 N4 N5 _ by assumption).1)).mono ?_; rintro e w2 ⟨rfl, hb1⟩; have hS : LiveS w N1 N2 N3 N4 N5 _ := LiveS.below (by assumption) hb1; clear hb1)
      | (go_at_call 17; (with_reducible refine (check_bad _).mono ?_); rintro e w2 ⟨rfl, hb1⟩; have hS : LiveS w N1 N2 N3 N4 N5 _ := LiveS.below (by assumption) hb1; clear hb1))
  go_wp2
  go_ret
  exact ⟨by simp, (show LiveS w N1 N2 N3 N4 N5 _ by assumption).1⟩
end Go.Proofs.YtcmiehddjgfjaaaGreatDoor.A
namespace Go.Proofs.YtcmiehddjgfjaaaGreatDoor.A
open Go.RowKit Go.Proofs.YtcmiehddjgfjaaaGreatDoorW.PrintWords Go.Proofs.YtcmiehddjgfjaaaGreatDoorW.PrintLast Go.Proofs.YtcmiehddjgfjaaaGreatDoorW.PrintMore
set_option linter.unusedVariables false
set_option linter.unusedSimpArgs false
theorem ris_is (a b : Int) : klaxonref08_Is.f a b = some (decide (isV (a, b))) := by
  unfold klaxonref08_Is.f
  by_cases hv : isV (a, b)
  · rw [decide_eq_true hv]
    rcases hv with ⟨h, h1, h2⟩ | ⟨h, h1⟩
    · have h' : a = 1 := h
      have h1' : -1000000000000000 ≤ b := h1
      have h2' : b ≤ 1000000000000000 := h2
      rw [if_pos h', if_pos h1', decide_eq_true h2']
    · have h' : a = 2 ∨ a = 3 ∨ a = 4 ∨ a = 5 := h
      have h1' : b = 0 := h1
      rw [if_neg (by omega), if_pos (by omega), if_pos (by omega), h1']; rfl
  · rw [decide_eq_false hv]
    by_cases h1 : a = 1
    · rw [if_pos h1]
      by_cases h2 : b ≥ -1000000000000000
      · rw [if_pos h2]
        have h3 : ¬ b ≤ 1000000000000000 := fun h3 => hv (.inl ⟨h1, h2, h3⟩)
        rw [decide_eq_false h3]
      · rw [if_neg h2]
    · rw [if_neg h1]
      by_cases h2 : a ≥ 2
      · rw [if_pos h2]
        by_cases h3 : a ≤ 5
        · rw [if_pos h3]
          have h4 : ¬ b = 0 := fun h4 => hv (.inr ⟨by show a = 2 ∨ a = 3 ∨ a = 4 ∨ a = 5; omega, h4⟩)
          congr 1
          exact beq_false_of_ne h4
        · rw [if_neg h3]
      · rw [if_neg h2]
theorem badV_is (x : S25) : badV x = !decide (isV (x.f0, x.f1)) := rfl
theorem rd_at {xs : List S25} {i : Nat} (h : i < xs.length) : rd_T25 xs (i : Int) = xs[i] := by
  unfold rd_T25
  rw [Int.toNat_natCast, List.getD_eq_getElem?_getD, List.getElem?_eq_getElem h]; rfl
theorem check_loop (l : List S25) (hm : l.length ≤ 4611686018427387904) : ∀ (d i : Nat), i + d = l.length → Ev (fun k => klaxonref08_Check.l0 k l (i : Int)) (if (l.drop i).any badV then 80 else 0)
  | 0, i, h => by
    have e : l.drop i = [] := List.drop_of_length_le (by omega)
    rw [e]
    refine ⟨1, fun k hk => ?_⟩
    obtain ⟨k, rfl⟩ : ∃ n, k = n + 1 := ⟨k - 1, by omega⟩
    simp only [klaxonref08_Check.l0]
    rw [if_neg (by omega)]
    rfl
  | d + 1, i, h => by
    have hi : i < l.length := by omega
    have e4 : wrap64 ((i : Int) + 1) = ((i + 1 : Nat) : Int) := by rw [wrap_id (by omega) (by omega)]; omega
    have he : l.drop i = l[i] :: l.drop (i + 1) := List.drop_eq_getElem_cons hi
    have ih := check_loop l hm d (i + 1) (by omega)
    rw [he, List.any_cons, badV_is]
    by_cases hv : isV (l[i].f0, l[i].f1)
    · rw [decide_eq_true hv]
      refine Ev.step (fun k => ?_) ih
      simp only [klaxonref08_Check.l0]
      rw [if_pos (by omega), if_pos (by omega), rd_at hi, ris_is, decide_eq_true hv]
      simp only [Option.bind_some, if_true]
      rw [e4]
    · rw [decide_eq_false hv]
      refine ⟨1, fun k hk => ?_⟩
      obtain ⟨k, rfl⟩ : ∃ n, k = n + 1 := ⟨k - 1, by omega⟩
      simp only [klaxonref08_Check.l0]
      rw [if_pos (by omega), if_pos (by omega), rd_at hi, ris_is, decide_eq_false hv]
      simp
theorem check_ev (l : List S25) (hm : l.length ≤ 4611686018427387904) : Ev (fun k => klaxonref08_Check.f k l) (if l.any badV then 80 else 0) := by
  have h := check_loop l hm l.length 0 (by omega)
  rw [List.drop_zero] at h
  exact h
end Go.Proofs.YtcmiehddjgfjaaaGreatDoor.A
namespace Go.Proofs.YtcmiehddjgfjaaaGreatDoor.A
open Go.RowKit Go.Proofs.YtcmiehddjgfjaaaGreatDoorW.PrintWords Go.Proofs.YtcmiehddjgfjaaaGreatDoorW.PrintLast Go.Proofs.YtcmiehddjgfjaaaGreatDoorW.PrintMore
set_option linter.unusedVariables false
set_option linter.unusedSimpArgs false
/-- The kinds of a value. -/
theorem isV_cases {a : V} (h : isV a) : (a.1 = 1 ∧ -1000000000000000 ≤ a.2 ∧ a.2 ≤ 1000000000000000) ∨ a = (2, 0) ∨ a = (3, 0) ∨ a = (4, 0) ∨ a = (5, 0) := by
  rcases h with h | ⟨h, h0⟩
  · exact .inl h
  · right
    obtain ⟨k, n⟩ := a
    have h0' : n = 0 := h0
    have h' : k = 2 ∨ k = 3 ∨ k = 4 ∨ k = 5 := h
    subst h0'
    rcases h' with rfl | rfl | rfl | rfl <;> simp
end Go.Proofs.YtcmiehddjgfjaaaGreatDoor.A
namespace Go.Proofs.YtcmiehddjgfjaaaGreatDoor.A
open Go.RowKit Go.Proofs.YtcmiehddjgfjaaaGreatDoorW.PrintWords Go.Proofs.YtcmiehddjgfjaaaGreatDoorW.PrintLast Go.Proofs.YtcmiehddjgfjaaaGreatDoorW.PrintMore
set_option linter.unusedVariables false
set_option linter.unusedSimpArgs false
abbrev vNeg : V → V := vPlain (fun n => -n)
theorem vTwo_at {F : V → V → V} {a b : V} (h : a.1 ≠ 2) (h' : b.1 ≠ 2) : vTwo F a b = F a b := by unfold vTwo; rw [if_neg (by omega)]
theorem neg_at {a : V} (h2 : a.1 ≠ 2) (h3 : a.1 ≠ 3) : vNeg a = vNum (-vRank a) := by unfold vNeg vPlain; rw [if_neg h2, if_neg h3]
/-- Turned round twice; abs; floor; times 1; over 1. -/
theorem signs_pure {a : V} (ha : isV a) :
    vNeg (vNeg a) = a ∧ vTwo (vNumbers vMul) a (1, 1000) = a ∧ vTwo (vNumbers vDiv) a (1, 1000) = a ∧
    (a.1 ≠ 1 → vFloor a = a ∧ (vPlain vMax a = a ∨ (a = (5, 0) ∧ vPlain vMax a = (4, 0)))) ∧
    (a.1 = 1 → 0 ≤ (vPlain vMax a).2 ∧ (vPlain vMax a = a ∨ vPlain vMax a = vNeg a) ∧ (vFloor a).2 ≤ a.2 ∧ a.2 - (vFloor a).2 < 1000 ∧ (vFloor a).2.tmod 1000 = 0) := by
  rcases isV_cases ha with ⟨h1, hl, hu⟩ | rfl | rfl | rfl | rfl
  · obtain ⟨k, n⟩ := a
    have hk : k = 1 := h1
    subst hk
    have hl' : -1000000000000000 ≤ n := hl
    have hu' : n ≤ 1000000000000000 := hu
    have hr : vRank (1, n) = n := rank_num rfl
    have hN : ∀ m : Int, -1000000000000000 ≤ m → m ≤ 1000000000000000 → vNum m = (1, m) := fun m a b => by unfold vNum; rw [if_neg (by omega), if_neg (by omega)]
    have e1 : vNeg (1, n) = (1, -n) := by rw [neg_at (by simp) (by simp), hr, hN _ (by omega) (by omega)]
    have e1' : vNeg (1, -n) = (1, n) := by rw [neg_at (by simp) (by simp), rank_num rfl, hN _ (by show -1000000000000000 ≤ - -n; omega) (by show - -n ≤ 1000000000000000; omega)]; show (1, - -n) = _; rw [Int.neg_neg]
    have e2 : vTwo (vNumbers vMul) (1, n) (1, 1000) = (1, n) := by
      rw [vTwo_at (by simp) (by simp)]
      unfold vNumbers vMul
      rw [if_neg (by simp), if_pos ⟨rfl, rfl⟩, hr]
      have es : vSign (vRank (1, 1000)) = 1 := rfl
      have es' : vSign (1000 : Int) = 1 := rfl
      rw [es]
      show vNum (vSign n * 1 * (n * vSign n * (1000 * vSign 1000) / 1000)) = _
      rw [es', Int.mul_one, Int.mul_one]
      have e : vSign n * (n * vSign n * 1000 / 1000) = n := by
        rw [Int.mul_ediv_cancel _ (by decide)]
        unfold vSign
        split
        · omega
        · split <;> omega
      rw [e, hN n hl' hu']
    have e3 : vTwo (vNumbers vDiv) (1, n) (1, 1000) = (1, n) := by
      rw [vTwo_at (by simp) (by simp)]
      unfold vNumbers vDiv
      rw [if_neg (by simp), if_pos rfl, if_pos rfl, if_neg (by decide)]
      show vNum ((n * 1000).tdiv 1000) = _
      rw [Int.mul_tdiv_cancel _ (by decide), hN n hl' hu']
    have ef : vFloor (1, n) = (1, n - n % 1000) := by
      unfold vFloor
      rw [if_pos rfl]
      show vNum (n - (n.tmod 1000 + 1000).tmod 1000) = _
      have h1 := Int.tmod_lt_of_pos n (show (0 : Int) < 1000 by decide)
      have h2 := Int.lt_tmod_of_pos n (show (0 : Int) < 1000 by decide)
      have h3 : n.tmod 1000 + 1000 * n.tdiv 1000 = n := Int.tmod_add_mul_tdiv n 1000
      rw [Int.tmod_eq_emod_of_nonneg (show 0 ≤ n.tmod 1000 + 1000 by omega)]
      have h4 : (n.tmod 1000 + 1000) % 1000 = n % 1000 := by omega
      rw [h4, hN _ (by omega) (by omega)]
    have em : vPlain vMax (1, n) = (1, if n < -n then -n else n) := by
      unfold vPlain
      rw [if_neg (by simp), if_neg (by simp), hr]
      unfold vMax
      rw [hN _ (by split <;> omega) (by split <;> omega)]
    refine ⟨by rw [e1, e1'], e2, e3, fun h => absurd rfl h, fun _ => ⟨?_, ?_, ?_, ?_, ?_⟩⟩
    · rw [em]; show 0 ≤ (if n < -n then -n else n); split <;> omega
    · rw [em, e1]
      by_cases h : n < -n
      · right; rw [if_pos h]
      · left; rw [if_neg h]
    · rw [ef]; show n - n % 1000 ≤ n; omega
    · rw [ef]; show n - (n - n % 1000) < 1000; omega
    · rw [ef]
      show (n - n % 1000).tmod 1000 = 0
      have : n - n % 1000 = 1000 * (n / 1000) := by omega
      rw [this, Int.mul_tmod_right]
  · exact ⟨rfl, rfl, rfl, fun _ => ⟨rfl, .inl rfl⟩, fun h => by cases h⟩
  · exact ⟨rfl, rfl, rfl, fun _ => ⟨rfl, .inl rfl⟩, fun h => by cases h⟩
  · exact ⟨rfl, rfl, rfl, fun _ => ⟨rfl, .inl rfl⟩, fun h => by cases h⟩
  · exact ⟨rfl, rfl, rfl, fun _ => ⟨rfl, .inr ⟨rfl, rfl⟩⟩, fun h => by cases h⟩
end Go.Proofs.YtcmiehddjgfjaaaGreatDoor.A
namespace Go.Proofs.YtcmiehddjgfjaaaGreatDoor.A
open Go.RowKit Go.Proofs.YtcmiehddjgfjaaaGreatDoorW.PrintWords Go.Proofs.YtcmiehddjgfjaaaGreatDoorW.PrintLast Go.Proofs.YtcmiehddjgfjaaaGreatDoorW.PrintMore Go.Proofs.YtcmiehddjgfjaaaGreatDoor.H Go.Sort
set_option linter.unusedVariables false
set_option linter.unusedSimpArgs false
attribute [local go_sem high] eqA25
theorem live_true (w : World) (G : Glob w) : Calls Tryz.prog 10 #[] w fun e w' => e = .returned (.bool true) ∧ Below w.heap.size w w' := klaxonlaw08_live.calls true w rfl G
end Go.Proofs.YtcmiehddjgfjaaaGreatDoor.A
namespace Go.Proofs.YtcmiehddjgfjaaaGreatDoor.A
open Go.RowKit Go.Proofs.YtcmiehddjgfjaaaGreatDoorW.PrintWords Go.Proofs.YtcmiehddjgfjaaaGreatDoorW.PrintLast Go.Proofs.YtcmiehddjgfjaaaGreatDoorW.PrintMore Go.Proofs.YtcmiehddjgfjaaaGreatDoor.H Go.Sort
set_option linter.unusedVariables false
set_option linter.unusedSimpArgs false
attribute [local go_sem high] eqA25
theorem rcheck_fresh1 (a1 a2 : Int) (w : World) (n1 : Nat) (hn : n1 = w.heap.size) : Calls Tryz.prog 18 #[.slice (some ⟨n1, 0, none⟩) 1 1] (w.alloc (.cells #[.int .i64 a1, .int .i64 a2] 25)) fun e w' => e = .returned (.int .i64 (if isV (a1, a2) then 0 else 80)) ∧ Below w.heap.size w w' := by
  subst hn
  obtain ⟨k, hk⟩ := (check_ev [(⟨a1, a2⟩ : S25)] (by simp)).rounds
  have e : (if [(⟨a1, a2⟩ : S25)].any badV then (80 : Int) else 0) = if isV (a1, a2) then 0 else 80 := by
    by_cases ha : isV (a1, a2)
    · simp [badV_is, ha]
    · simp [badV_is, ha]
  rw [e] at hk
  exact (klaxonref08_Check.calls k _ 1 [⟨a1, a2⟩] _ _ (fresh_C1 w a1 a2) (Nat.le_refl _) hk).mono fun e w' ⟨he, hb⟩ => ⟨he, (below_one w _).trans (hb.mono (below_one w _).size)⟩
theorem rcheck_yes1 {a1 a2 : Int} (h : isV (a1, a2)) (w : World) (n1 : Nat) (hn : n1 = w.heap.size) : Calls Tryz.prog 18 #[.slice (some ⟨n1, 0, none⟩) 1 1] (w.alloc (.cells #[.int .i64 a1, .int .i64 a2] 25)) fun e w' => e = .returned (.int .i64 0) ∧ Below w.heap.size w w' := by
  have := rcheck_fresh1 a1 a2 w n1 hn
  rwa [if_pos h] at this
theorem rcheck_no1 {a1 a2 : Int} (h : ¬ isV (a1, a2)) (w : World) (n1 : Nat) (hn : n1 = w.heap.size) : Calls Tryz.prog 18 #[.slice (some ⟨n1, 0, none⟩) 1 1] (w.alloc (.cells #[.int .i64 a1, .int .i64 a2] 25)) fun e w' => e = .returned (.int .i64 80) ∧ Below w.heap.size w w' := by
  have := rcheck_fresh1 a1 a2 w n1 hn
  rwa [if_neg h] at this
theorem rplus_calls (w : World) : Calls Tryz.prog 28 #[] w fun e w' => e = .returned (.agg #[.int .i64 4, .int .i64 0]) ∧ Below w.heap.size w w' := klaxonref08_Plus.calls  4 0 w (by first | rfl | (unfold klaxonref08_Num.f; simp))
theorem isV_vNeg {a : V} (ha : isV a) : isV (vNeg a) := by
  unfold vNeg vPlain
  split
  · exact ha
  · split
    · exact ha
    · exact isV_num
theorem isV_abs {a : V} (ha : isV a) : isV (vPlain vMax a) := by
  unfold vPlain
  split
  · exact ha
  · split
    · exact ha
    · exact isV_num
theorem isV_floor {a : V} (ha : isV a) : isV (vFloor a) := by
  unfold vFloor
  split
  · exact isV_num
  · exact ha
theorem Bx.drew {w w1 : World} {L : List (Nat × Int × Int)} (h : Bx w L w1) : Bx w L w1.drew := h.below (Below.refl _ _).drew
theorem Bx.push' {w w1 : World} {L : List (Nat × Int × Int)} (h : Bx w L w1) (a b : Int) (n : Nat) (hn : n = w1.heap.size) : Bx w ((n, a, b) :: L) (w1.alloc (.cells #[.int .i64 a, .int .i64 b] 25)) := by
  subst hn; exact h.push a b
theorem Bx.drop {w w1 : World} {x : Nat × Int × Int} {L : List (Nat × Int × Int)} (h : Bx w (x :: L) w1) : Bx w L w1 := ⟨h.b, fun y hy => h.r y (List.mem_cons_of_mem _ hy)⟩
theorem Bx.f {w w1 : World} {L : List (Nat × Int × Int)} (h : Bx w L w1) {n : Nat} {a b : Int} (hx : (n, a, b) ∈ L) (i : Nat) : w1.frozen? ⟨n, i, none⟩ = false := blk_frozen (h.r _ hx) i
/-- The box at the head is filled. -/
theorem Bx.fill {w w1 : World} {n : Nat} {x y a b : Int} {L : List (Nat × Int × Int)} (h : Bx w ((n, x, y) :: L) w1) (hn : w.heap.size ≤ n) (hL : ∀ z ∈ L, z.1 < n) : Bx w ((n, a, b) :: L) ((w1.setCell ⟨n, 0, none⟩ (.int .i64 a)).setCell ⟨n, 1, none⟩ (.int .i64 b)) := by
  refine ⟨(h.b.setCell hn _).setCell hn _, fun z hz => ?_⟩
  rcases List.mem_cons.1 hz with rfl | hz
  · exact blk_put (blk_put (h.r _ List.mem_cons_self) 0 (.int .i64 a) rfl) 1 (.int .i64 b) rfl
  · have hne : z.1 ≠ n := by have := hL z hz; omega
    exact blk_far (blk_far (h.r _ (List.mem_cons_of_mem _ hz)) hne _) hne _
theorem Bx.lt {w w1 : World} {L : List (Nat × Int × Int)} (h : Bx w L w1) {n : Nat} {a b : Int} (hx : (n, a, b) ∈ L) : n < w1.heap.size := blk_lt (h.r _ hx)
theorem Bx.all_lt {w w1 : World} {L : List (Nat × Int × Int)} (h : Bx w L w1) : ∀ z ∈ L, z.1 < w1.heap.size := fun z hz => blk_lt (h.r z hz)
theorem blk_old' {w : World} {g : Nat} {o o' : Obj} (h : w.heap[g]? = some o) : (w.alloc o').heap[g]? = some o := blk_alloc h o'
/-- value.Do of two values that lie in a slice of the call's own. -/
theorem do2_w {op : ByteArray} {F : V → V → V} (ht : tab2.lookup op = some F) {a b : V} (ha : isV a) (hb : isV b) {r : V} (hr : vTwo F a b = r) (w : World) (n : Nat) (h : w.heap[n]? = some (.cells #[.int .i64 a.1, .int .i64 a.2, .int .i64 b.1, .int .i64 b.2] 25 (0, 0))) :
    Calls Tryz.prog 11 #[.string op, .slice (some ⟨n, 0, none⟩) 2 2] w fun e w' => e = .returned (.tuple #[.agg #[.int .i64 r.1, .int .i64 r.2], .int .i64 0]) ∧ Below w.heap.size w w' := by
  subst hr
  have hc : Kd.C k25 w (some ⟨n, 0, none⟩) 2 [⟨a.1, a.2⟩, ⟨b.1, b.2⟩] := by
    refine ⟨rfl, by have : maxLen = 9223372036854775807 := rfl; simp, fun _ => ⟨_, rfl, fun j p hp => ?_⟩⟩
    match j, hp with
    | 0, hp =>
      injection hp with hp
      subst hp
      exact ⟨[.int .i64 a.1, .int .i64 a.2], rfl, k25_mk _ _, fun i u hu => by
        match i, hu with
        | 0, hu => exact (blk_cell h 0).trans hu
        | 1, hu => exact (blk_cell h 1).trans hu
        | i + 2, hu => simp at hu⟩
    | 1, hp =>
      injection hp with hp
      subst hp
      exact ⟨[.int .i64 b.1, .int .i64 b.2], rfl, k25_mk _ _, fun i u hu => by
        match i, hu with
        | 0, hu => exact (blk_cell h 2).trans hu
        | 1, hu => exact (blk_cell h 3).trans hu
        | i + 2, hu => simp at hu⟩
    | j + 2, hp => simp at hp
  exact value_Do.calls op _ 2 [⟨a.1, a.2⟩, ⟨b.1, b.2⟩] _ _ _ _ hc (Nat.le_refl _) (do_2 ht ha hb)
set_option maxHeartbeats 8000000 in
set_option maxRecDepth 100000 in
theorem signs_yes (a1 a2 : Int) (w : World) (G : Glob w) (ha : isV (a1, a2)) : Calls Tryz.prog 9 #[.agg #[.int .i64 a1, .int .i64 a2]] w fun e w' => e = .returned (.bool true) ∧ Below w.heap.size w w' := by
  obtain ⟨t1, t2, t3, t4, t5⟩ := signs_pure ha
  have hk0 : Calls Tryz.prog 18 #[.slice (some ⟨w.heap.size + 1, 0, none⟩) 1 1] ((w.alloc (.cells #[.int .i64 a1, .int .i64 a2] 25)).alloc (.cells #[.int .i64 a1, .int .i64 a2] 25)) fun e w' => e = .returned (.int .i64 0) ∧ Bx w [(w.heap.size, a1, a2)] w' :=
    (rcheck_yes1 ha (w.alloc (.cells #[.int .i64 a1, .int .i64 a2] 25)) (w.heap.size + 1) (by simp)).mono fun e w' ⟨he, hb'⟩ => ⟨he, ((Bx.start w).push a1 a2).below hb'⟩
  have hk := Aside0.mk hk0
  clear hk0
  have vx : isV (vNeg (a1, a2)) := isV_vNeg ha
  have vs : isV (vPlain vMax (a1, a2)) := isV_abs ha
  have vf : isV (vFloor (a1, a2)) := isV_floor ha
  obtain ⟨⟨x1, x2⟩, hx⟩ : ∃ v : V, vNeg (a1, a2) = v := ⟨_, rfl⟩
  obtain ⟨⟨s1, s2⟩, hs⟩ : ∃ v : V, vPlain vMax (a1, a2) = v := ⟨_, rfl⟩
  obtain ⟨⟨f1, f2⟩, hf⟩ : ∃ v : V, vFloor (a1, a2) = v := ⟨_, rfl⟩
  rw [hx] at t1 vx
  rw [hs] at vs
  rw [hf] at vf
  rw [hs, hf, hx] at t5
  rw [hs, hf] at t4
  have d1r : ∀ (w1 : World) (n1 : Nat), n1 = w1.heap.size → Calls Tryz.prog 11 #[.string ⟨#[45]⟩, .slice (some ⟨n1, 0, none⟩) 1 1] (w1.alloc (.cells #[.int .i64 a1, .int .i64 a2] 25)) fun e w' => e = .returned (.tuple #[.agg #[.int .i64 x1, .int .i64 x2], .int .i64 0]) ∧ Below w1.heap.size w1 w' := fun w1 n1 hn1 => by subst hn1; exact do1_fresh op1_neg ha (r := (x1, x2)) hx w1
  have d1 := Aside0.mk d1r
  clear d1r
  have d2r : ∀ (w1 : World) (n1 : Nat), n1 = w1.heap.size → Calls Tryz.prog 11 #[.string ⟨#[45]⟩, .slice (some ⟨n1, 0, none⟩) 1 1] (w1.alloc (.cells #[.int .i64 x1, .int .i64 x2] 25)) fun e w' => e = .returned (.tuple #[.agg #[.int .i64 a1, .int .i64 a2], .int .i64 0]) ∧ Below w1.heap.size w1 w' := fun w1 n1 hn1 => by subst hn1; exact do1_fresh op1_neg vx (r := (a1, a2)) t1 w1
  have d2 := Aside0.mk d2r
  clear d2r
  have d3r : ∀ (w1 : World) (n1 : Nat), n1 = w1.heap.size → Calls Tryz.prog 11 #[.string ⟨#[97, 98, 115]⟩, .slice (some ⟨n1, 0, none⟩) 1 1] (w1.alloc (.cells #[.int .i64 a1, .int .i64 a2] 25)) fun e w' => e = .returned (.tuple #[.agg #[.int .i64 s1, .int .i64 s2], .int .i64 0]) ∧ Below w1.heap.size w1 w' := fun w1 n1 hn1 => by subst hn1; exact do1_fresh op1_abs ha (r := (s1, s2)) hs w1
  have d3 := Aside0.mk d3r
  clear d3r
  have d4r : ∀ (w1 : World) (n1 : Nat), n1 = w1.heap.size → Calls Tryz.prog 11 #[.string ⟨#[102, 108, 111, 111, 114]⟩, .slice (some ⟨n1, 0, none⟩) 1 1] (w1.alloc (.cells #[.int .i64 a1, .int .i64 a2] 25)) fun e w' => e = .returned (.tuple #[.agg #[.int .i64 f1, .int .i64 f2], .int .i64 0]) ∧ Below w1.heap.size w1 w' := fun w1 n1 hn1 => by subst hn1; exact do1_fresh op1_floor ha (r := (f1, f2)) hf w1
  have d4 := Aside0.mk d4r
  clear d4r
  have d5r : ∀ (w1 : World) (n1 : Nat), w1.heap[n1]? = some (.cells #[.int .i64 a1, .int .i64 a2, .int .i64 1, .int .i64 1000] 25 (0, 0)) → Calls Tryz.prog 11 #[.string ⟨#[42]⟩, .slice (some ⟨n1, 0, none⟩) 2 2] w1 fun e w' => e = .returned (.tuple #[.agg #[.int .i64 a1, .int .i64 a2], .int .i64 0]) ∧ Below w1.heap.size w1 w' := fun w1 n1 hn1 => do2_w op2_mul ha (b := (1, 1000)) (.inl ⟨rfl, by decide, by decide⟩) (r := (a1, a2)) t2 w1 n1 hn1
  have d5 := Aside0.mk d5r
  clear d5r
  have d6r : ∀ (w1 : World) (n1 : Nat), w1.heap[n1]? = some (.cells #[.int .i64 a1, .int .i64 a2, .int .i64 1, .int .i64 1000] 25 (0, 0)) → Calls Tryz.prog 11 #[.string ⟨#[47]⟩, .slice (some ⟨n1, 0, none⟩) 2 2] w1 fun e w' => e = .returned (.tuple #[.agg #[.int .i64 a1, .int .i64 a2], .int .i64 0]) ∧ Below w1.heap.size w1 w' := fun w1 n1 hn1 => do2_w op2_div ha (b := (1, 1000)) (.inl ⟨rfl, by decide, by decide⟩) (r := (a1, a2)) t3 w1 n1 hn1
  have d6 := Aside0.mk d6r
  clear d6r
  have HG := Aside0.mk G
  clear G t1 t2 t3
  have ba := isV_n ha
  have bf := isV_n vf
  have T4 := Aside0.mk t4
  have T5 := Aside0.mk t5
  have BA := Aside0.mk ba
  have BF := Aside0.mk bf
  have VX := Aside0.mk vx
  have VS := Aside0.mk vs
  have VF := Aside0.mk vf
  have HF := Aside0.mk hf
  have HX := Aside0.mk hx
  have HS := Aside0.mk hs
  clear ha vx vs vf t4 t5 ba bf hx hs hf
  go_enter Tryz.func9, Tryz.ntmps9
  go_upto_region 7 with (first
    | (go_at_call 18; (with_reducible refine hk.out.mono ?_); rintro e u0 ⟨rfl, hb1⟩; have HK := Aside0.mk hb1; clear hb1; have fa0 := HK.out.c0 (n := w.heap.size) (a := a1) (b := a2) (by simp); have fa1 := HK.out.c1 (n := w.heap.size) (a := a1) (b := a2) (by simp))
    | (go_at_call 11; (with_reducible refine (d1.out _ _ (by simp)).mono ?_); rintro e u1 ⟨rfl, hb1⟩; have HK := Aside0.mk (HK.out.below hb1); clear hb1 fa0 fa1; have HP := Aside0.mk (HK.out.push x1 x2); have fn_0 := HP.out.c0 (n := u1.heap.size) (a := x1) (b := x2) (by simp); have fn_1 := HP.out.c1 (n := u1.heap.size) (a := x1) (b := x2) (by simp))
    | (go_at_call 11; (with_reducible refine (d2.out _ _ (by simp)).mono ?_); rintro e u2 ⟨rfl, hb1⟩; have HK := Aside0.mk (HP.out.below hb1); clear hb1 fn_0 fn_1; have HP := Aside0.mk (HK.out.push a1 a2); have fa0 := HP.out.c0 (n := w.heap.size) (a := a1) (b := a2) (by simp); have fa1 := HP.out.c1 (n := w.heap.size) (a := a1) (b := a2) (by simp))
    | (go_at_call 11; (with_reducible refine (d3.out _ _ (by simp)).mono ?_); rintro e u3 ⟨rfl, hb1⟩; have HK := Aside0.mk (HP.out.below hb1); clear hb1 fa0 fa1; have HP := Aside0.mk (HK.out.push s1 s2); have fa0 := HP.out.c0 (n := w.heap.size) (a := a1) (b := a2) (by simp); have fa1 := HP.out.c1 (n := w.heap.size) (a := a1) (b := a2) (by simp))
    | (go_at_call 11; (with_reducible refine (d4.out _ _ (by simp)).mono ?_); rintro e u4 ⟨rfl, hb1⟩; have HK := Aside0.mk (HP.out.below hb1); clear hb1 fa0 fa1; have HP := Aside0.mk (HK.out.push f1 f2); have fa0 := HP.out.c0 (n := w.heap.size) (a := a1) (b := a2) (by simp); have fa1 := HP.out.c1 (n := w.heap.size) (a := a1) (b := a2) (by simp)))
  clear fa0 fa1 HK d1 d2 d3 d4 hk
  have HK := Aside0.mk HP.out
  clear HP
  generalize u4.alloc (.cells #[.int .i64 f1, .int .i64 f2] 25) = W at HK ⊢
  go_cut [11] (fun v wx => ∃ N : Nat, v = .pointer (some ⟨N, 0, none⟩) ∧ Aside0 (Bx w ((N, a1, a2) :: [(u4.heap.size, f1, f2), (u3.heap.size, s1, s2), (u2.heap.size, a1, a2), (u1.heap.size, x1, x2), (w.heap.size, a1, a2)]) wx))
  case first =>
    have g0 := HK.out.c0 (n := w.heap.size) (a := a1) (b := a2) (by simp)
    have g1 := HK.out.c1 (n := w.heap.size) (a := a1) (b := a2) (by simp)
    have := HK.out.lt (n := w.heap.size) (a := a1) (b := a2) (by simp)
    have k1 : ¬ (w.heap.size = W.heap.size) := by omega
    have k2 : ¬ (W.heap.size = w.heap.size) := by omega
    have k3 : ¬ (w.heap.size = W.heap.size + 1) := by omega
    have k4 : ¬ (W.heap.size + 1 = w.heap.size) := by omega
    clear this
    have HL0 := Aside0.mk HK.out.all_lt
    have sW := HK.out.b.size
    go_region_held3 (fun w' => w'.cell? ⟨w.heap.size, 0, none⟩ = some (.int .i64 a1) ∧ w'.cell? ⟨w.heap.size, 1, none⟩ = some (.int .i64 a2)) (go_keep)
      (first
        | (go_at_call 20; (with_reducible refine (r1000_calls _).mono ?_); rintro e w2 ⟨rfl, hb1⟩; (first | have HK := Aside0.mk (HK.out.drew.below hb1) | have HK := Aside0.mk ((HK.out.drew.push' 0 0 W.heap.size rfl).below hb1)); clear hb1; have HL := Aside0.mk HK.out.all_lt; have sz := HK.out.b.size; have := HK.out.lt (n := w.heap.size) (a := a1) (b := a2) (by simp); have k1 : ¬ (w.heap.size = w2.heap.size) := (by omega); have k2 : ¬ (w2.heap.size = w.heap.size) := (by omega); have k3 : ¬ (w.heap.size = w2.heap.size + 1) := (by omega); have k4 : ¬ (w2.heap.size + 1 = w.heap.size) := (by omega); clear this; have g0 := HK.out.c0 (n := w.heap.size) (a := a1) (b := a2) (by simp); have g1 := HK.out.c1 (n := w.heap.size) (a := a1) (b := a2) (by simp))
        | (go_at_call 11; (with_reducible refine (d5.out _ _ (by first | exact blk_new _ _ | exact blk_old' (blk_new _ _) | exact blk_new2' _ _ _)).mono ?_); rintro e w3 ⟨rfl, hb1⟩; (first | have HK := Aside0.mk ((HK.out.alloc _).below hb1) | have HK := Aside0.mk (((HK.out.push' 0 0 w2.heap.size rfl).alloc _).below hb1) | have HK := Aside0.mk (((HK.out.alloc _).push' 0 0 (w2.heap.size + 1) (by simp)).below hb1)); clear hb1; have := HK.out.lt (n := w.heap.size) (a := a1) (b := a2) (by simp); have k1 : ¬ (w.heap.size = w3.heap.size) := (by omega); have k2 : ¬ (w3.heap.size = w.heap.size) := (by omega); have k3 : ¬ (w.heap.size = w3.heap.size + 1) := (by omega); have k4 : ¬ (w3.heap.size + 1 = w.heap.size) := (by omega); clear this; have g0 := HK.out.c0 (n := w.heap.size) (a := a1) (b := a2) (by simp); have g1 := HK.out.c1 (n := w.heap.size) (a := a1) (b := a2) (by simp); have q0 := HK.out.c0 List.mem_cons_self; have q1 := HK.out.c1 List.mem_cons_self; have q2 := HK.out.f List.mem_cons_self 0; have q3 := HK.out.f List.mem_cons_self 1))
    all_goals (go_wp2_with fail; go_meet)
    all_goals (first | exact ⟨_, rfl, ⟨HK.out.push a1 a2⟩⟩ | exact ⟨_, rfl, ⟨HK.out.fill sW HL0.out⟩⟩ | exact ⟨_, rfl, ⟨HK.out.fill sz HL.out⟩⟩ | exact ⟨_, rfl, ⟨HK.out.fill (Nat.le_succ_of_le sz) (fun z hz => Nat.lt_succ_of_lt (HL.out z hz))⟩⟩)
  case rest =>
    obtain ⟨N11, rfl, HK⟩ := hcut
    go_wp2_with fail
    go_cut [13] (fun v wx => ∃ N : Nat, v = .pointer (some ⟨N, 0, none⟩) ∧ Aside0 (Bx w ((N, a1, a2) :: [(N11, a1, a2), (u4.heap.size, f1, f2), (u3.heap.size, s1, s2), (u2.heap.size, a1, a2), (u1.heap.size, x1, x2), (w.heap.size, a1, a2)]) wx))
    case first =>
      have g0 := HK.out.c0 (n := w.heap.size) (a := a1) (b := a2) (by simp)
      have g1 := HK.out.c1 (n := w.heap.size) (a := a1) (b := a2) (by simp)
      have := HK.out.lt (n := w.heap.size) (a := a1) (b := a2) (by simp)
      have k1 : ¬ (w.heap.size = wc.heap.size) := by omega
      have k2 : ¬ (wc.heap.size = w.heap.size) := by omega
      have k3 : ¬ (w.heap.size = wc.heap.size + 1) := by omega
      have k4 : ¬ (wc.heap.size + 1 = w.heap.size) := by omega
      clear this
      have HL0 := Aside0.mk HK.out.all_lt
      have sW := HK.out.b.size
      go_region_held3 (fun w' => w'.cell? ⟨w.heap.size, 0, none⟩ = some (.int .i64 a1) ∧ w'.cell? ⟨w.heap.size, 1, none⟩ = some (.int .i64 a2)) (go_keep)
        (first
          | (go_at_call 20; (with_reducible refine (r1000_calls _).mono ?_); rintro e w2 ⟨rfl, hb1⟩; (first | have HK := Aside0.mk (HK.out.drew.below hb1) | have HK := Aside0.mk ((HK.out.drew.push' 0 0 wc.heap.size rfl).below hb1)); clear hb1; have HL := Aside0.mk HK.out.all_lt; have sz := HK.out.b.size; have := HK.out.lt (n := w.heap.size) (a := a1) (b := a2) (by simp); have k1 : ¬ (w.heap.size = w2.heap.size) := (by omega); have k2 : ¬ (w2.heap.size = w.heap.size) := (by omega); have k3 : ¬ (w.heap.size = w2.heap.size + 1) := (by omega); have k4 : ¬ (w2.heap.size + 1 = w.heap.size) := (by omega); clear this; have g0 := HK.out.c0 (n := w.heap.size) (a := a1) (b := a2) (by simp); have g1 := HK.out.c1 (n := w.heap.size) (a := a1) (b := a2) (by simp))
          | (go_at_call 11; (with_reducible refine (d6.out _ _ (by first | exact blk_new _ _ | exact blk_old' (blk_new _ _) | exact blk_new2' _ _ _)).mono ?_); rintro e w3 ⟨rfl, hb1⟩; (first | have HK := Aside0.mk ((HK.out.alloc _).below hb1) | have HK := Aside0.mk (((HK.out.push' 0 0 w2.heap.size rfl).alloc _).below hb1) | have HK := Aside0.mk (((HK.out.alloc _).push' 0 0 (w2.heap.size + 1) (by simp)).below hb1)); clear hb1; have := HK.out.lt (n := w.heap.size) (a := a1) (b := a2) (by simp); have k1 : ¬ (w.heap.size = w3.heap.size) := (by omega); have k2 : ¬ (w3.heap.size = w.heap.size) := (by omega); have k3 : ¬ (w.heap.size = w3.heap.size + 1) := (by omega); have k4 : ¬ (w3.heap.size + 1 = w.heap.size) := (by omega); clear this; have g0 := HK.out.c0 (n := w.heap.size) (a := a1) (b := a2) (by simp); have g1 := HK.out.c1 (n := w.heap.size) (a := a1) (b := a2) (by simp); have q0 := HK.out.c0 List.mem_cons_self; have q1 := HK.out.c1 List.mem_cons_self; have q2 := HK.out.f List.mem_cons_self 0; have q3 := HK.out.f List.mem_cons_self 1))
      all_goals (go_wp2_with fail; go_meet)
      all_goals (first | exact ⟨_, rfl, ⟨HK.out.push a1 a2⟩⟩ | exact ⟨_, rfl, ⟨HK.out.fill sW HL0.out⟩⟩ | exact ⟨_, rfl, ⟨HK.out.fill sz HL.out⟩⟩ | exact ⟨_, rfl, ⟨HK.out.fill (Nat.le_succ_of_le sz) (fun z hz => Nat.lt_succ_of_lt (HL.out z hz))⟩⟩)
    case rest =>
      obtain ⟨N13, rfl, HK⟩ := hcut
      clear d5 d6
      have mixed : Tryz.prog.follows .mixedOrders = true := by kernel_rfl
      by_cases h1 : a1 = 1
      · subst h1
        obtain ⟨z1, z2, z3, z4, z5⟩ := T5.out rfl
        obtain ⟨ba1, ba2⟩ := BA.out
        obtain ⟨bf1, bf2⟩ := BF.out
        have z6 : (f2.tmod 1000 == 0) = true := by simpa using z5
        have z1 : 0 ≤ s2 := z1
        have z3 : f2 ≤ a2 := z3
        have z4 : a2 - f2 < 1000 := z4
        clear z5 T4 T5 BA BF VX VS VF HF HX HS
        have w1 : IntKind.i64.wrap (a2 - f2) = a2 - f2 := by rw [IntKind.wrap_i64]; omega
        by_cases hsa : s1 = 1 ∧ s2 = a2
        · obtain ⟨rfl, hs2⟩ := hsa
          have hs2 := hs2
          subst hs2
          clear z2
          have ra0 := HK.out.c0 (n := w.heap.size) (a := 1) (b := s2) (by simp)
          have ra1 := HK.out.c1 (n := w.heap.size) (a := 1) (b := s2) (by simp)
          have rx0 := HK.out.c0 (n := u1.heap.size) (a := x1) (b := x2) (by simp)
          have rx1 := HK.out.c1 (n := u1.heap.size) (a := x1) (b := x2) (by simp)
          have rm0 := HK.out.c0 (n := u2.heap.size) (a := 1) (b := s2) (by simp)
          have rm1 := HK.out.c1 (n := u2.heap.size) (a := 1) (b := s2) (by simp)
          have rs0 := HK.out.c0 (n := u3.heap.size) (a := 1) (b := s2) (by simp)
          have rs1 := HK.out.c1 (n := u3.heap.size) (a := 1) (b := s2) (by simp)
          have rf0 := HK.out.c0 (n := u4.heap.size) (a := f1) (b := f2) (by simp)
          have rf1 := HK.out.c1 (n := u4.heap.size) (a := f1) (b := f2) (by simp)
          have rt0 := HK.out.c0 (n := N11) (a := 1) (b := s2) (by simp)
          have rt1 := HK.out.c1 (n := N11) (a := 1) (b := s2) (by simp)
          have rq0 := HK.out.c0 (n := N13) (a := 1) (b := s2) (by simp)
          have rq1 := HK.out.c1 (n := N13) (a := 1) (b := s2) (by simp)
          have hlive := live_true wc (HG.out.below HK.out.b)
          go_wp2_with (go_at_call 10; (refine hlive.mono ?_); rintro e w2 ⟨rfl, hb1⟩; have HP2 := Aside0.mk (HK.out.below hb1); clear hb1)
          go_ret
          exact ⟨by simp, HP2.out.b⟩
        · have hsq : (s1 == 1 && s2 == a2) = false := by simpa using hsa
          have hsx : s1 = x1 ∧ s2 = x2 := z2.elim (fun h => absurd (by simpa using h) hsa) (fun h => by simpa using h)
          obtain ⟨rfl, rfl⟩ := hsx
          clear z2 hsa
          have ra0 := HK.out.c0 (n := w.heap.size) (a := 1) (b := a2) (by simp)
          have ra1 := HK.out.c1 (n := w.heap.size) (a := 1) (b := a2) (by simp)
          have rx0 := HK.out.c0 (n := u1.heap.size) (a := s1) (b := s2) (by simp)
          have rx1 := HK.out.c1 (n := u1.heap.size) (a := s1) (b := s2) (by simp)
          have rm0 := HK.out.c0 (n := u2.heap.size) (a := 1) (b := a2) (by simp)
          have rm1 := HK.out.c1 (n := u2.heap.size) (a := 1) (b := a2) (by simp)
          have rs0 := HK.out.c0 (n := u3.heap.size) (a := s1) (b := s2) (by simp)
          have rs1 := HK.out.c1 (n := u3.heap.size) (a := s1) (b := s2) (by simp)
          have rf0 := HK.out.c0 (n := u4.heap.size) (a := f1) (b := f2) (by simp)
          have rf1 := HK.out.c1 (n := u4.heap.size) (a := f1) (b := f2) (by simp)
          have rt0 := HK.out.c0 (n := N11) (a := 1) (b := a2) (by simp)
          have rt1 := HK.out.c1 (n := N11) (a := 1) (b := a2) (by simp)
          have rq0 := HK.out.c0 (n := N13) (a := 1) (b := a2) (by simp)
          have rq1 := HK.out.c1 (n := N13) (a := 1) (b := a2) (by simp)
          have hlive := live_true wc (HG.out.below HK.out.b)
          go_wp2_with (go_at_call 10; (refine hlive.mono ?_); rintro e w2 ⟨rfl, hb1⟩; have HP2 := Aside0.mk (HK.out.below hb1); clear hb1)
          go_ret
          exact ⟨by simp, HP2.out.b⟩
      · obtain ⟨e1, e2⟩ := T4.out h1
        have e1 : f1 = a1 ∧ f2 = a2 := by simpa using e1
        obtain ⟨rfl, rfl⟩ := e1
        have hq : (f1 != 1) = true := by simpa using h1
        clear T4 T5 BA BF VX VS VF HF HX HS
        by_cases hsa : s1 = f1 ∧ s2 = f2
        · obtain ⟨rfl, rfl⟩ := hsa
          clear e2 h1
          have ra0 := HK.out.c0 (n := w.heap.size) (a := s1) (b := s2) (by simp)
          have ra1 := HK.out.c1 (n := w.heap.size) (a := s1) (b := s2) (by simp)
          have rx0 := HK.out.c0 (n := u1.heap.size) (a := x1) (b := x2) (by simp)
          have rx1 := HK.out.c1 (n := u1.heap.size) (a := x1) (b := x2) (by simp)
          have rm0 := HK.out.c0 (n := u2.heap.size) (a := s1) (b := s2) (by simp)
          have rm1 := HK.out.c1 (n := u2.heap.size) (a := s1) (b := s2) (by simp)
          have rs0 := HK.out.c0 (n := u3.heap.size) (a := s1) (b := s2) (by simp)
          have rs1 := HK.out.c1 (n := u3.heap.size) (a := s1) (b := s2) (by simp)
          have rf0 := HK.out.c0 (n := u4.heap.size) (a := s1) (b := s2) (by simp)
          have rf1 := HK.out.c1 (n := u4.heap.size) (a := s1) (b := s2) (by simp)
          have rt0 := HK.out.c0 (n := N11) (a := s1) (b := s2) (by simp)
          have rt1 := HK.out.c1 (n := N11) (a := s1) (b := s2) (by simp)
          have rq0 := HK.out.c0 (n := N13) (a := s1) (b := s2) (by simp)
          have rq1 := HK.out.c1 (n := N13) (a := s1) (b := s2) (by simp)
          go_upto_region 12 with fail
          clear ra0 ra1 rx0 rx1 rm0 rm1 rs0 rs1 rf0 rf1 rt0 rt1 rq0 rq1
          have pa0 := fun p : Bw wc => p.cell (HK.out.c0 (n := w.heap.size) (a := s1) (b := s2) (by simp))
          have pa1 := fun p : Bw wc => p.cell (HK.out.c1 (n := w.heap.size) (a := s1) (b := s2) (by simp))
          have ps0 := fun p : Bw wc => p.cell (HK.out.c0 (n := u3.heap.size) (a := s1) (b := s2) (by simp))
          have ps1 := fun p : Bw wc => p.cell (HK.out.c1 (n := u3.heap.size) (a := s1) (b := s2) (by simp))
          have pf0 := fun p : Bw wc => p.cell (HK.out.c0 (n := u4.heap.size) (a := s1) (b := s2) (by simp))
          have pf1 := fun p : Bw wc => p.cell (HK.out.c1 (n := u4.heap.size) (a := s1) (b := s2) (by simp))
          have hlive := fun p : Bw wc => p.at (live_true p.w (HG.out.below (HK.out.below p.h).b))
          have hm := fun p : Bw wc => p.at (rminus_calls p.w)
          have hp := fun p : Bw wc => p.at (rplus_calls p.w)
          refine wp_region_Bw (by assumption) (by kernel_rfl) ?_
          repeat ((with_reducible refine wpQuiet_step (fun K hK => ?_)); go_simp; first | ((with_reducible refine hK _ ?_); clear hK K) | (rw [if_neg (by decide)]; (with_reducible refine hK _ ?_); clear hK K) | ((with_reducible apply Exists.intro); (with_reducible refine ⟨fun _ => ?_, hK _ ?_⟩); (((first | (go_at_call 30; exact hm _) | (go_at_call 28; exact hp _) | (go_at_call 10; exact hlive _)))); clear hK K))
          refine wpQuiet_nil ?_
          intro _ hw'
          obtain ⟨p, rfl⟩ := hw'
          have HP := Aside0.mk (HK.out.below p.h)
          go_wp2
          go_ret
          exact ⟨by simp, HP.out.b⟩
        · have e3 : (f1 = 5 ∧ f2 = 0) ∧ (s1 = 4 ∧ s2 = 0) := e2.elim (fun h => absurd (by simpa using h) hsa) (fun h => by simpa using h)
          obtain ⟨⟨rfl, rfl⟩, rfl, rfl⟩ := e3
          clear e2 h1 hsa
          have ra0 := HK.out.c0 (n := w.heap.size) (a := 5) (b := 0) (by simp)
          have ra1 := HK.out.c1 (n := w.heap.size) (a := 5) (b := 0) (by simp)
          have rx0 := HK.out.c0 (n := u1.heap.size) (a := x1) (b := x2) (by simp)
          have rx1 := HK.out.c1 (n := u1.heap.size) (a := x1) (b := x2) (by simp)
          have rm0 := HK.out.c0 (n := u2.heap.size) (a := 5) (b := 0) (by simp)
          have rm1 := HK.out.c1 (n := u2.heap.size) (a := 5) (b := 0) (by simp)
          have rs0 := HK.out.c0 (n := u3.heap.size) (a := 4) (b := 0) (by simp)
          have rs1 := HK.out.c1 (n := u3.heap.size) (a := 4) (b := 0) (by simp)
          have rf0 := HK.out.c0 (n := u4.heap.size) (a := 5) (b := 0) (by simp)
          have rf1 := HK.out.c1 (n := u4.heap.size) (a := 5) (b := 0) (by simp)
          have rt0 := HK.out.c0 (n := N11) (a := 5) (b := 0) (by simp)
          have rt1 := HK.out.c1 (n := N11) (a := 5) (b := 0) (by simp)
          have rq0 := HK.out.c0 (n := N13) (a := 5) (b := 0) (by simp)
          have rq1 := HK.out.c1 (n := N13) (a := 5) (b := 0) (by simp)
          go_upto_region 12 with fail
          clear ra0 ra1 rx0 rx1 rm0 rm1 rs0 rs1 rf0 rf1 rt0 rt1 rq0 rq1
          have pa0 := fun p : Bw wc => p.cell (HK.out.c0 (n := w.heap.size) (a := 5) (b := 0) (by simp))
          have pa1 := fun p : Bw wc => p.cell (HK.out.c1 (n := w.heap.size) (a := 5) (b := 0) (by simp))
          have ps0 := fun p : Bw wc => p.cell (HK.out.c0 (n := u3.heap.size) (a := 4) (b := 0) (by simp))
          have ps1 := fun p : Bw wc => p.cell (HK.out.c1 (n := u3.heap.size) (a := 4) (b := 0) (by simp))
          have pf0 := fun p : Bw wc => p.cell (HK.out.c0 (n := u4.heap.size) (a := 5) (b := 0) (by simp))
          have pf1 := fun p : Bw wc => p.cell (HK.out.c1 (n := u4.heap.size) (a := 5) (b := 0) (by simp))
          have hlive := fun p : Bw wc => p.at (live_true p.w (HG.out.below (HK.out.below p.h).b))
          have hm := fun p : Bw wc => p.at (rminus_calls p.w)
          have hp := fun p : Bw wc => p.at (rplus_calls p.w)
          refine wp_region_Bw (by assumption) (by kernel_rfl) ?_
          repeat ((with_reducible refine wpQuiet_step (fun K hK => ?_)); go_simp; first | ((with_reducible refine hK _ ?_); clear hK K) | (rw [if_neg (by decide)]; (with_reducible refine hK _ ?_); clear hK K) | ((with_reducible apply Exists.intro); (with_reducible refine ⟨fun _ => ?_, hK _ ?_⟩); (((first | (go_at_call 30; exact hm _) | (go_at_call 28; exact hp _) | (go_at_call 10; exact hlive _)))); clear hK K))
          refine wpQuiet_nil ?_
          intro _ hw'
          obtain ⟨p, rfl⟩ := hw'
          have HP := Aside0.mk (HK.out.below p.h)
          go_wp2
          go_ret
          exact ⟨by simp, HP.out.b⟩
set_option maxRecDepth 100000 in
theorem signs_no (a1 a2 : Int) (w : World) (G : Glob w) (h : ¬ isV (a1, a2)) : Calls Tryz.prog 9 #[.agg #[.int .i64 a1, .int .i64 a2]] w fun e w' => e = .returned (.bool true) ∧ Below w.heap.size w w' := by
  have hk := Aside0.mk (fun w1 n1 hn => rcheck_no1 (a1 := a1) (a2 := a2) h w1 n1 hn)
  have HG := Aside0.mk G
  have HK := Aside0.mk ((Bx.start w).push a1 a2).b
  clear G h
  go_enter Tryz.func9, Tryz.ntmps9
  go_wp2_with (first
    | (go_at_call 18; (with_reducible refine (hk.out _ _ (by simp)).mono ?_); rintro e u0 ⟨rfl, hb1⟩; have HK := Aside0.mk (HK.out.trans (hb1.mono HK.out.size)); clear hb1)
    | (go_at_call 10; (refine (live_true _ (HG.out.below HK.out)).mono ?_); rintro e w2 ⟨rfl, hb1⟩; have HP2 := Aside0.mk (HK.out.trans (hb1.mono HK.out.size)); clear hb1))
  go_ret
  exact ⟨rfl, HP2.out⟩
def klaxonlaw08_ValueSigns.f (k : Nat) (a1 a2 : Int) : Option Bool := some true
theorem klaxonlaw08_ValueSigns.calls (k : Nat) (a1 a2 : Int) (r : Bool) (w : World) (h : klaxonlaw08_ValueSigns.f k a1 a2 = some r) (G : Glob w) : Calls Tryz.prog 9 #[.agg #[.int .i64 a1, .int .i64 a2]] w fun e w' => e = .returned (.bool r) ∧ Below w.heap.size w w' := by
  injection h with h
  subst h
  by_cases hv : isV (a1, a2)
  · exact signs_yes a1 a2 w G hv
  · exact signs_no a1 a2 w G hv
end Go.Proofs.YtcmiehddjgfjaaaGreatDoor.A
