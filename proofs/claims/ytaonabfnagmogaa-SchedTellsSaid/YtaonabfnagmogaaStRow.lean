/- A row of the call's own, of whatever kind, as the sort's rows; what the sort leaves is such a row again. -/
import Derived.Test.YtaonabfnagmogaaStBase
import Derived.Test.YtaonabfnagmogaaStList
import Derived.Test.YtaonabfnagmogaaWMore
namespace Go.Proofs.Ytaonabfnagmogaa.St
open Go.Proofs Go.Shelf Go.RowKit Go.Lib Go.Sort Go.Proofs.Ytaonabfnagmogaa.Stable Go.Proofs.YtaonabfnagmogaaW.PrintWords Go.Proofs.YtaonabfnagmogaaW.PrintLast Go.Proofs.YtaonabfnagmogaaW.PrintMore
set_option linter.unusedVariables false
set_option linter.unusedSimpArgs false
section
variable {α : Type} [Inhabited α] {enc : α → List Value} {k : Nat} {w0 W : World} {blk off : Nat} {dk : Array α}
theorem SB.heap (h : SB enc k w0 blk off dk W) : ∃ os : Array Obj, W.heap = (w0.heap.modify blk (onCells (putCells id off (flatK enc k dk)))) ++ os := by
  obtain ⟨n, m, os, h⟩ := h
  refine ⟨os, ?_⟩
  have : (undrawn W n).heap = (grow (putRowK enc k (Sort.ahead w0 m) blk off dk) os).heap := by rw [h]; rfl
  exact this
theorem SB.block (h : SB enc k w0 blk off dk W) (hb : blk < w0.heap.size) : W.heap[blk]? = (w0.heap[blk]?).map (onCells (putCells id off (flatK enc k dk))) := by
  obtain ⟨os, h⟩ := h.heap
  rw [h, Array.getElem?_append_left (by simpa using hb), Array.getElem?_modify, if_pos rfl]
theorem SB.other (h : SB enc k w0 blk off dk W) {b : Nat} (hb : b < w0.heap.size) (hne : b ≠ blk) : W.heap[b]? = w0.heap[b]? := by
  obtain ⟨os, h⟩ := h.heap
  rw [h, Array.getElem?_append_left (by simpa using hb), Array.getElem?_modify, if_neg (fun e => hne e.symm)]
theorem SB.belowB (h : SB enc k w0 blk off dk W) {B : Nat} (hB : B ≤ blk) (hb : blk < w0.heap.size) : Below B w0 W := by
  have hh := h.heap
  have ho : ∀ b, b < B → W.heap[b]? = w0.heap[b]? := fun b hlt => h.other (by omega) (by omega)
  obtain ⟨n, m, os, h⟩ := h
  have h1 : (undrawn W n).os = w0.os := by rw [h]; rfl
  have h2 : (undrawn W n).tape = w0.tape := by rw [h]; rfl
  have h3 : (undrawn W n).output = w0.output := by rw [h]; rfl
  obtain ⟨os', hh⟩ := hh
  exact ⟨h1, h2, h3, by rw [hh]; simp, ho⟩
end
theorem flat_seg {α : Type} [Inhabited α] {enc : α → List Value} {k : Nat} (hk : ∀ x, (enc x).length = k) (d : Array α) (j : Nat) (hj : j < d.size) : ((flatK enc k d).toList.drop (j * k)).take k = enc d[j]! := by
  have hl := hk d[j]!
  have hb : j * k + k ≤ d.size * k := rowK_bnd d k j hj
  apply List.ext_getElem
  · rw [List.length_take, List.length_drop, Array.length_toList, size_flatK, hl]; omega
  · intro t h1 h2
    rw [hl] at h2
    rw [List.getElem_take, List.getElem_drop]
    have e := get_flatK enc k d (j * k + t) (by omega)
    rw [getElem!_pos _ (j * k + t) (by rw [size_flatK]; omega)] at e
    have e1 : (j * k + t) / k = j := by rw [Nat.mul_comm, Nat.mul_add_div (by omega), Nat.div_eq_of_lt h2]; omega
    have e2 : (j * k + t) % k = t := by rw [Nat.mul_comm, Nat.mul_add_mod, Nat.mod_eq_of_lt h2]
    rw [e1, e2] at e
    rw [Array.getElem_toList, e, getElem!_pos _ t (by rw [hl]; exact h2)]
theorem put_take (F cur : Array Value) (h : F.size ≤ cur.size) : (putCells id 0 F cur).toList.take F.size = F.toList := by
  apply List.ext_getElem
  · rw [List.length_take, Array.length_toList, Array.length_toList]; simp [putCells]; omega
  · intro t h1 h2
    rw [Array.length_toList] at h2
    rw [List.getElem_take, Array.getElem_toList, Array.getElem_toList]
    simp only [putCells, Array.getElem_mapIdx]
    rw [if_pos ⟨by omega, by omega⟩]
    rw [Nat.sub_zero, getElem!_pos F t h2]; rfl
/-- An element, with the cells that bear it. -/
abbrev El {α : Type} (d : Kd α) (w : World) (base : Nat) (ok : Nat → Prop) (g : Nat) := {p : α × List Value // d.M w base (fun k => ok k ∧ some k ≠ some g) p.1 p.2}
def elv {α : Type} {d : Kd α} {w : World} {base : Nat} {ok : Nat → Prop} {g : Nat} (x : El d w base ok g) : α := x.1.1
def elc {α : Type} {d : Kd α} {w : World} {base : Nat} {ok : Nat → Prop} {g : Nat} (x : El d w base ok g) : List Value := x.1.2
section
variable {α : Type} {d : Kd α} {e : Nat} {w0 W : World} {base : Nat} {ok : Nat → Prop} {g n c : Nat} {xs : List α}
theorem elc_len (x : El d w0 base ok g) : (elc x).length = d.sz := d.K_len (d.K_of_M x.2)
theorem elc_one (x : El d w0 base ok g) : ∀ v ∈ elc x, v.oneCell' = true := d.K_one (d.K_of_M x.2)
theorem row_in (h : Kd.R d e w0 base ok (.slice (some ⟨g, 0, none⟩) n c) xs) (hx : xs ≠ []) (hsz : 0 < d.sz) : ∃ (_ : Inhabited (El d w0 base ok g)) (d0 : Array (El d w0 base ok g)), d0.toList.map elv = xs ∧ d0.size = n ∧ base ≤ g ∧ RowK elc d.sz w0 g 0 d0 := by
  obtain ⟨h0, inner, hown, hr⟩ := h
  obtain ⟨hil, ho⟩ := hown
  rcases ho with ⟨hv, hz⟩ | ⟨g', cap', cur, hv, hb, hh, hic, hcm, hcs, htk⟩
  · exact absurd (List.eq_nil_of_length_eq_zero hz) hx
  injection hv with ha h2 h3
  injection ha with ha
  injection ha with hg'
  subst hg'; subst h3; subst h2
  have hM : ∀ (j : Fin xs.length), d.M w0 base (fun k => ok k ∧ some k ≠ some g) xs[j] ((inner.drop (j * d.sz)).take d.sz) := fun j => hr.2 j xs[j] (by simp)
  obtain ⟨f, hf⟩ : ∃ f : Fin xs.length → El d w0 base ok g, ∀ j, (f j).1 = (xs[j], (inner.drop (j * d.sz)).take d.sz) := ⟨fun j => ⟨(xs[j], (inner.drop (j * d.sz)).take d.sz), hM j⟩, fun j => rfl⟩
  have h0l : 0 < xs.length := List.length_pos_iff.2 hx
  obtain ⟨I, _⟩ : ∃ I : Inhabited (El d w0 base ok g), True := ⟨⟨f ⟨0, h0l⟩⟩, trivial⟩
  have hsize : (Array.ofFn f).size = xs.length := by simp
  refine ⟨I, Array.ofFn f, ?_, hsize, hb, elc_len, elc_one, ?_, (Array.getElem?_eq_some_iff.1 hh).1⟩
  · apply List.ext_getElem
    · simp
    · intro i h1 h2
      simp [elv, hf]
  · intro j hj
    rw [size_flatK, hsize] at hj
    have hjc : j < cur.size := by
      rw [hcs]
      have := Nat.mul_le_mul_right d.sz hic
      omega
    refine ⟨?_, blk_frozen hh _⟩
    rw [Nat.zero_add, cell_of_row w0 g j cur e (0, 0) hh, get_flatK _ _ _ _ (by rw [hsize]; exact hj)]
    have hdiv : j / d.sz < xs.length := Nat.div_lt_of_lt_mul (by rw [Nat.mul_comm]; exact hj)
    rw [getElem!_pos (Array.ofFn f) (j / d.sz) (by simpa using hdiv)]
    have hfe : (Array.ofFn f)[j / d.sz]'(by simpa using hdiv) = f ⟨j / d.sz, hdiv⟩ := by simp
    rw [hfe]
    show _ = some (id ((elc (f ⟨j / d.sz, hdiv⟩))[j % d.sz]!))
    have hm : j % d.sz < d.sz := Nat.mod_lt _ hsz
    rw [getElem!_pos _ (j % d.sz) (by rw [elc_len]; exact hm)]
    have hec : elc (f ⟨j / d.sz, hdiv⟩) = (inner.drop (j / d.sz * d.sz)).take d.sz := by unfold elc; rw [hf]
    simp only [hec, List.getElem_take, List.getElem_drop, id]
    have hje : j / d.sz * d.sz + j % d.sz = j := by rw [Nat.mul_comm]; exact Nat.div_add_mod j d.sz
    have hin : inner[j]? = cur[j]? := by
      rw [← htk, List.getElem?_take, if_pos hj, Array.getElem?_toList]
    rw [← hin, List.getElem?_eq_getElem (by rw [hil]; exact hj)]
    simp only [hje]
theorem row_out [Inhabited (El d w0 base ok g)] (h : Kd.R d e w0 base ok (.slice (some ⟨g, 0, none⟩) n c) xs) (hx : xs ≠ []) {dk : Array (El d w0 base ok g)} (hn : dk.size = n) (hS : SB elc d.sz w0 g 0 dk W) :
    Kd.R d e W base ok (.slice (some ⟨g, 0, none⟩) n c) (dk.toList.map elv) ∧ ∀ B, B ≤ g → Below B w0 W := by
  obtain ⟨h0, inner, hown, hr⟩ := h
  obtain ⟨hil, ho⟩ := hown
  rcases ho with ⟨hv, hz⟩ | ⟨g', cap', cur, hv, hb, hh, hic, hcm, hcs, htk⟩
  · exact absurd (List.eq_nil_of_length_eq_zero hz) hx
  injection hv with ha h2 h3
  injection ha with ha
  injection ha with hg'
  subst hg'; subst h3; subst h2
  have hlt : g < w0.heap.size := (Array.getElem?_eq_some_iff.1 hh).1
  have hblk := hS.block hlt
  rw [hh] at hblk
  have hF : (flatK elc d.sz dk).size = xs.length * d.sz := by rw [size_flatK, hn]
  have hFc : (flatK elc d.sz dk).size ≤ cur.size := by rw [hF, hcs]; exact Nat.mul_le_mul_right _ hic
  have hlen : (dk.toList.map elv).length = xs.length := by rw [List.length_map, Array.length_toList, hn]
  refine ⟨⟨h0, (flatK elc d.sz dk).toList, ⟨by rw [Array.length_toList, hF, hlen], .inr ⟨g, c, putCells id 0 (flatK elc d.sz dk) cur, by rw [hlen], hb, hblk, by rw [hlen]; exact hic, hcm, by simp [putCells, hcs], by rw [hlen, ← hF]; exact put_take _ _ hFc⟩⟩, by rw [Array.length_toList, hF, hlen], fun j p hp => ?_⟩, fun B hB => hS.belowB hB hlt⟩
  have hj : j < dk.size := by
    have := (List.getElem?_eq_some_iff.1 hp).1
    rw [hlen] at this; omega
  rw [flat_seg elc_len dk j hj]
  have hp' : elv dk[j]! = p := by
    rw [List.getElem?_map, Array.getElem?_toList, Array.getElem?_eq_getElem hj] at hp
    rw [getElem!_pos dk j hj]
    simpa using hp
  subst hp'
  exact Kd.M_step dk[j]!.2 (fun k hk hlt' => hS.other hlt' (fun e => hk.2 (by rw [e]; rfl)))
end
theorem blk_old {w : World} {g : Nat} {o o' : Obj} (h : w.heap[g]? = some o) : (w.alloc o').heap[g]? = some o := (Below.heap_alloc w o' g (Array.getElem?_eq_some_iff.1 h).1).trans h
theorem blk_new2 (w : World) (o o' : Obj) : ((w.alloc o).alloc o').heap[w.heap.size + 1]? = some o' := by
  have := blk_new (w.alloc o) o'
  simpa using this
theorem size_new (w : World) (o : Obj) : w.heap.size ≤ (w.alloc o).heap.size := by simp
/-- A literal of no element, and of one, as rows of the call's own. -/
theorem ne_own {g g' n c : Nat} (h : g ≠ g') : some g ≠ (Value.slice (some ⟨g', 0, none⟩) n c).ownBlock := fun e => h (by injection e)
theorem lit_none {α : Type} (d : Kd α) (e : Nat) {W : World} {base g : Nat} (h : W.heap[g]? = some (.cells #[] e (0, 0))) (hb : base ≤ g) : Kd.R d e W base (fun _ => True) (.slice (some ⟨g, 0, none⟩) 0 0) [] :=
  ⟨fun _ _ => trivial, [], ⟨by simp, .inr ⟨g, 0, #[], rfl, hb, h, by simp, by simp [maxLen], by simp, by simp⟩⟩, Reps.none _ _⟩
theorem lit_one {α : Type} (d : Kd α) (e : Nat) {W : World} {base g : Nat} {x : α} {cs : List Value} (h : W.heap[g]? = some (.cells cs.toArray e (0, 0))) (hb : base ≤ g) (hM : d.M W base (fun _ => False) x cs) : Kd.R d e W base (fun _ => True) (.slice (some ⟨g, 0, none⟩) 1 1) [x] := by
  have hl : cs.length = d.sz := d.K_len (d.K_of_M hM)
  refine ⟨fun _ _ => trivial, cs, ⟨by simp [hl], .inr ⟨g, 1, cs.toArray, rfl, hb, h, by simp, by simp [maxLen], by simp [hl], by simp [← hl]⟩⟩, by simp [hl], fun j p hp => ?_⟩
  match j, hp with
  | 0, hp =>
    simp at hp
    subst hp
    rw [Nat.zero_mul, List.drop_zero, ← hl, List.take_length]
    exact d.M_mono (fun _ h => h.elim) hM
  | j + 1, hp => simp at hp
theorem ltOf_map {α β : Type} (f : β → α) (lt : α → α → Bool) : ∀ u v : List β, (merge (fun a b => lt (f a) (f b)) u v).map f = merge lt (u.map f) (v.map f)
  | [], v => by rw [merge, List.map_nil, merge]
  | x :: u, [] => by rw [merge, List.map_nil, List.map_cons, merge]
  | x :: u, y :: v => by
    rw [merge, List.map_cons, List.map_cons, merge]
    split
    · rw [List.map_cons, ltOf_map f lt (x :: u) v]; rfl
    · rw [List.map_cons, ltOf_map f lt u (y :: v)]; rfl
theorem isort_map {α β : Type} (f : β → α) (lt : α → α → Bool) (l : List β) : (isort (fun a b => lt (f a) (f b)) l).map f = isort lt (l.map f) := by
  have : ∀ (l s : List β), (l.foldl (fun s x => merge (fun a b => lt (f a) (f b)) s [x]) s).map f = (l.map f).foldl (fun s x => merge lt s [x]) (s.map f) := by
    intro l
    induction l with
    | nil => intro s; rfl
    | cons x l ih => intro s; rw [List.foldl_cons, ih, ltOf_map]; rfl
  exact this l []
theorem ord_map {α β : Type} (f : β → α) {lt : α → α → Bool} (h : Stable.Ord lt) : Stable.Ord (fun a b : β => lt (f a) (f b)) :=
  ⟨fun a b c => h.trans _ _ _, fun z x y => h.skip _ _ _, fun a b => h.asym _ _⟩
end Go.Proofs.Ytaonabfnagmogaa.St
