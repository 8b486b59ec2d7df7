/- The stable sort, in plain words: exchanges, turning, binary search, insertion, blocks. No program in sight. -/
import Derived.Test.YtaonabfnagmogaaStMerge
import Derived.Shelf.SlSortCmp.KitK
namespace Go.Proofs.Ytaonabfnagmogaa.St
open Go.Sort Go.Proofs.Ytaonabfnagmogaa.Stable
set_option linter.unusedVariables false
set_option linter.unusedSimpArgs false
set_option linter.unusedSectionVars false
section
variable {α : Type} [Inhabited α]
/-- The elements of two ranges, exchanged one by one. -/
def swpR (a b : Nat) : Nat → Nat → Array α → Array α
  | _, 0, d => d
  | i, m + 1, d => swpR a b (i + 1) m (swp d (a + i) (b + i))
theorem get_at (d : Array α) (x y : List α) (a : α) (h : d.toList = x ++ a :: y) : d[x.length]! = a := by
  rw [getElem!_def]
  have : d[x.length]? = some a := by rw [← Array.getElem?_toList, h]; simp
  rw [this]
theorem swp_list (d : Array α) (x y z : List α) (a b : α) (h : d.toList = x ++ a :: (y ++ b :: z)) : (swp d x.length (x.length + 1 + y.length)).toList = x ++ b :: (y ++ a :: z) := by
  have ga := get_at d x _ a h
  have gb : d[x.length + 1 + y.length]! = b := by
    have := get_at d (x ++ a :: y) z b (by rw [h]; simp)
    rw [show (x ++ a :: y).length = x.length + 1 + y.length by simp; omega] at this
    exact this
  unfold swp
  rw [ga, gb]
  rw [Array.toList_setIfInBounds, Array.toList_setIfInBounds, h]
  have e1 : (x ++ a :: (y ++ b :: z)).set x.length b = x ++ b :: (y ++ b :: z) := by
    rw [List.set_append_right _ _ (Nat.le_refl _), Nat.sub_self, List.set_cons_zero]
  have e2 : (x ++ b :: (y ++ b :: z)).set (x.length + 1 + y.length) a = x ++ b :: (y ++ a :: z) := by
    rw [List.set_append_right _ _ (by omega), show x.length + 1 + y.length - x.length = y.length + 1 by omega, List.set_cons_succ, List.set_append_right _ _ (Nat.le_refl _), Nat.sub_self, List.set_cons_zero]
  rw [e1, e2]
theorem swpR_list : ∀ (m i a b : Nat) (d : Array α) (x A y B z : List α), d.toList = x ++ (A ++ (y ++ (B ++ z))) → x.length = a + i → A.length = m → B.length = m → x.length + m + y.length = b + i → (swpR a b i m d).toList = x ++ (B ++ (y ++ (A ++ z)))
  | 0, i, a, b, d, x, A, y, B, z, h, hx, hA, hB, hy => by
    have e1 := List.eq_nil_of_length_eq_zero hA
    have e2 := List.eq_nil_of_length_eq_zero hB
    subst e1; subst e2
    rw [swpR, h]
  | m + 1, i, a, b, d, x, A, y, B, z, h, hx, hA, hB, hy => by
    match A, hA, B, hB with
    | a0 :: A', hA, b0 :: B', hB =>
      have hA' : A'.length = m := by simpa using hA
      have hB' : B'.length = m := by simpa using hB
      have e := swp_list d x (A' ++ y) (B' ++ z) a0 b0 (by rw [h]; simp)
      have e2 : x.length + 1 + (A' ++ y).length = b + i := by rw [List.length_append, hA']; omega
      rw [e2, hx] at e
      rw [swpR, swpR_list m (i + 1) a b (swp d (a + i) (b + i)) (x ++ [b0]) A' (y ++ [a0]) B' z (by rw [e]; simp) (by simp; omega) hA' hB' (by simp; omega)]
      simp
/-- What a round of the turning leaves to be turned. -/
def Left (m : Nat) (t : List α) (i j : Nat) (dk : Array α) : Prop :=
  ∃ p u v q : List α, u.length = i ∧ v.length = j ∧ p.length + i = m ∧ dk.toList = p ++ (u ++ (v ++ q)) ∧ p ++ (v ++ (u ++ q)) = t
theorem left_great {m i j : Nat} {t : List α} {dk : Array α} (h : Left m t i j dk) (hij : j < i) : Left m t (i - j) j (swpR (m - i) m 0 j dk) := by
  obtain ⟨p, u, v, q, hu, hv, hp, hd, ht⟩ := h
  have e : u = u.take j ++ u.drop j := (List.take_append_drop j u).symm
  have l1 : (u.take j).length = j := by rw [List.length_take]; omega
  have l2 : (u.drop j).length = i - j := by rw [List.length_drop]; omega
  generalize u.take j = A at e l1
  generalize u.drop j = B at e l2
  subst e
  have s := swpR_list j 0 (m - i) m dk p A B v q (by rw [hd]; simp) (by omega) l1 hv (by omega)
  exact ⟨p ++ v, B, A, q, l2, l1, by rw [List.length_append]; omega, by rw [s]; simp, by rw [← ht]; simp⟩
theorem left_less {m i j : Nat} {t : List α} {dk : Array α} (h : Left m t i j dk) (hij : i < j) : Left m t i (j - i) (swpR (m - i) (m + j - i) 0 i dk) := by
  obtain ⟨p, u, v, q, hu, hv, hp, hd, ht⟩ := h
  have e : v = v.take (j - i) ++ v.drop (j - i) := (List.take_append_drop (j - i) v).symm
  have l1 : (v.take (j - i)).length = j - i := by rw [List.length_take]; omega
  have l2 : (v.drop (j - i)).length = i := by rw [List.length_drop]; omega
  generalize v.take (j - i) = C at e l1
  generalize v.drop (j - i) = D at e l2
  subst e
  have s := swpR_list i 0 (m - i) (m + j - i) dk p u C D q (by rw [hd]; simp) (by omega) hu l2 (by omega)
  exact ⟨p, D, C, u ++ q, l2, l1, by omega, by rw [s], by rw [← ht]; simp⟩
theorem left_same {m i : Nat} {t : List α} {dk : Array α} (h : Left m t i i dk) : (swpR (m - i) m 0 i dk).toList = t := by
  obtain ⟨p, u, v, q, hu, hv, hp, hd, ht⟩ := h
  have s := swpR_list i 0 (m - i) m dk p u [] v q (by rw [hd]; simp) (by omega) hu hv (by simp; omega)
  rw [s, ← ht]; simp
theorem swpR_size : ∀ (m i a b : Nat) (d : Array α), (swpR a b i m d).size = d.size
  | 0, _, _, _, _ => rfl
  | m + 1, i, a, b, d => by rw [swpR, swpR_size m, size_swp]
/-- 'p' is true up to some place, and false from there on. -/
def Mono (p : Nat → Bool) (lo hi : Nat) : Prop := ∀ q c, lo ≤ q → q ≤ c → c < hi → p c = true → p q = true
/-- What a binary search knows. -/
structure Bin (p : Nat → Bool) (lo hi i j : Nat) : Prop where
  mono : Mono p lo hi
  li : lo ≤ i
  ij : i ≤ j
  jh : j ≤ hi
  yes : ∀ q, lo ≤ q → q < i → p q = true
  no : ∀ q, j ≤ q → q < hi → p q = false
theorem Bin.start {p : Nat → Bool} {lo hi : Nat} (hm : Mono p lo hi) (h : lo ≤ hi) : Bin p lo hi lo hi :=
  ⟨hm, Nat.le_refl _, h, Nat.le_refl _, fun q h1 h2 => by omega, fun q h1 h2 => by omega⟩
theorem Bin.right {p : Nat → Bool} {lo hi i j c : Nat} (b : Bin p lo hi i j) (h1 : i ≤ c) (h2 : c < j) (hp : p c = true) : Bin p lo hi (c + 1) j :=
  ⟨b.mono, by have := b.li; omega, by omega, b.jh, fun q hq hc => b.mono q c hq (by omega) (by have := b.jh; omega) hp, b.no⟩
theorem Bin.left {p : Nat → Bool} {lo hi i j c : Nat} (b : Bin p lo hi i j) (h1 : i ≤ c) (h2 : c < j) (hp : p c = false) : Bin p lo hi i c :=
  ⟨b.mono, b.li, h1, by have := b.jh; omega, b.yes, fun q hq hh => by
    cases h : p q with
    | false => rfl
    | true => rw [b.mono c q (by have := b.li; omega) hq hh h] at hp; cases hp⟩
/-- x at place k is carried to the right, to the place ahead of i. -/
def MvR (T : List α) (i k : Nat) (dk : Array α) : Prop := ∃ (u v r : List α) (x : α), u.length = k ∧ v.length + k + 1 = i ∧ dk.toList = u ++ x :: (v ++ r) ∧ u ++ (v ++ x :: r) = T
theorem MvR.step {T : List α} {i k : Nat} {dk : Array α} (h : MvR T i k dk) (hk : k + 1 < i) : MvR T i (k + 1) (swp dk k (k + 1)) := by
  obtain ⟨u, v, r, x, hu, hv, hd, ht⟩ := h
  match v, hv with
  | [], hv => simp at hv; omega
  | y :: v, hv =>
    have s := swp_list dk u [] (v ++ r) x y (by rw [hd]; simp)
    rw [hu] at s
    exact ⟨u ++ [y], v, r, x, by simp [hu], by simp at hv; omega, by rw [show k + 1 = k + 1 + ([] : List α).length from rfl, s]; simp, by rw [← ht]; simp⟩
theorem MvR.done {T : List α} {i k : Nat} {dk : Array α} (h : MvR T i k dk) (hk : ¬ k + 1 < i) : dk.toList = T := by
  obtain ⟨u, v, r, x, hu, hv, hd, ht⟩ := h
  have : v = [] := List.eq_nil_of_length_eq_zero (by omega)
  subst this
  rw [hd, ← ht]; simp
theorem swp_list' (d : Array α) (x y z : List α) (a b : α) (h : d.toList = x ++ a :: (y ++ b :: z)) : (swp d (x.length + 1 + y.length) x.length).toList = x ++ b :: (y ++ a :: z) := by
  have ga := get_at d x _ a h
  have gb : d[x.length + 1 + y.length]! = b := by
    have := get_at d (x ++ a :: y) z b (by rw [h]; simp)
    rw [show (x ++ a :: y).length = x.length + 1 + y.length by simp; omega] at this
    exact this
  unfold swp
  rw [ga, gb]
  rw [Array.toList_setIfInBounds, Array.toList_setIfInBounds, h]
  have e2 : (x ++ a :: (y ++ b :: z)).set (x.length + 1 + y.length) a = x ++ a :: (y ++ a :: z) := by
    rw [List.set_append_right _ _ (by omega), show x.length + 1 + y.length - x.length = y.length + 1 by omega, List.set_cons_succ, List.set_append_right _ _ (Nat.le_refl _), Nat.sub_self, List.set_cons_zero]
  have e1 : (x ++ a :: (y ++ a :: z)).set x.length b = x ++ b :: (y ++ a :: z) := by
    rw [List.set_append_right _ _ (Nat.le_refl _), Nat.sub_self, List.set_cons_zero]
  rw [e2, e1]
/-- x at place k is carried to the left, to the place i. -/
def MvL (T : List α) (i k : Nat) (dk : Array α) : Prop := ∃ (u v r : List α) (x : α), u.length = i ∧ v.length + i = k ∧ dk.toList = u ++ (v ++ x :: r) ∧ u ++ x :: (v ++ r) = T
theorem MvL.step {T : List α} {i k : Nat} {dk : Array α} (h : MvL T i (k + 1) dk) (hk : i < k + 1) : MvL T i k (swp dk (k + 1) k) := by
  obtain ⟨u, v, r, x, hu, hv, hd, ht⟩ := h
  have hne : v ≠ [] := by intro e; subst e; simp at hv; omega
  have e : v = v.dropLast ++ [v.getLast hne] := (List.dropLast_concat_getLast hne).symm
  have hl : v.dropLast.length + i = k := by rw [List.length_dropLast]; omega
  generalize v.dropLast = v' at e hl
  generalize v.getLast hne = y at e
  subst e
  have s := swp_list' dk (u ++ v') [] r y x (by rw [hd]; simp)
  have e1 : (u ++ v').length = k := by rw [List.length_append]; omega
  rw [e1] at s
  exact ⟨u, v', y :: r, x, hu, hl, by rw [show k + 1 = k + 1 + ([] : List α).length from rfl, s]; simp, by rw [← ht]; simp⟩
theorem MvL.done {T : List α} {i k : Nat} {dk : Array α} (h : MvL T i k dk) (hk : ¬ i < k) : dk.toList = T := by
  obtain ⟨u, v, r, x, hu, hv, hd, ht⟩ := h
  have : v = [] := List.eq_nil_of_length_eq_zero (by omega)
  subst this
  rw [hd, ← ht]; simp
/-- Two sorted neighbours. -/
structure Two (lt : α → α → Bool) (a m b : Nat) (pre U V post : List α) (d : Array α) : Prop where
  list : d.toList = pre ++ (U ++ (V ++ post))
  la : pre.length = a
  lm : U.length + a = m
  lb : V.length + m = b
  su : Sorted lt U
  sv : Sorted lt V
section
variable {lt : α → α → Bool} {a m b : Nat} {pre U V post : List α} {d : Array α}
theorem Ord.irr (h : Stable.Ord lt) (x : α) : lt x x = false := by
  cases e : lt x x with
  | false => rfl
  | true => exact absurd (h.asym x x e) (by rw [e]; simp)
theorem get_list (d : Array α) (l : List α) (h : d.toList = l) (i : Nat) (hi : i < l.length) : d[i]! = l[i] := by
  subst h
  rw [getElem!_pos d i (by simpa using hi)]
  simp
theorem Two.getU (t : Two lt a m b pre U V post d) {q : Nat} (h1 : a ≤ q) (h2 : q < m) : ∃ h : q - a < U.length, d[q]! = U[q - a] := by
  have l1 := t.la; have l2 := t.lm
  have hq : q - a < U.length := by omega
  refine ⟨hq, ?_⟩
  rw [get_list d _ t.list q (by simp; omega), List.getElem_append_right (by omega), List.getElem_append_left (by omega)]
  congr 1; omega
theorem Two.getV (t : Two lt a m b pre U V post d) {q : Nat} (h1 : m ≤ q) (h2 : q < b) : ∃ h : q - m < V.length, d[q]! = V[q - m] := by
  have l1 := t.la; have l2 := t.lm; have l3 := t.lb
  have hq : q - m < V.length := by omega
  refine ⟨hq, ?_⟩
  rw [get_list d _ t.list q (by simp; omega), List.getElem_append_right (by omega), List.getElem_append_right (by omega), List.getElem_append_left (by omega)]
  congr 1; omega
theorem Two.incU (O : Stable.Ord lt) (t : Two lt a m b pre U V post d) {q c : Nat} (h1 : a ≤ q) (h2 : q ≤ c) (h3 : c < m) : lt d[c]! d[q]! = false := by
  obtain ⟨hq, eq⟩ := t.getU h1 (by omega)
  obtain ⟨hc, ec⟩ := t.getU (q := c) (by omega) h3
  rw [eq, ec]
  by_cases e : q = c
  · subst e; exact Ord.irr O _
  · exact t.su.getElem (by omega) hc
theorem Two.incV (O : Stable.Ord lt) (t : Two lt a m b pre U V post d) {q c : Nat} (h1 : m ≤ q) (h2 : q ≤ c) (h3 : c < b) : lt d[c]! d[q]! = false := by
  obtain ⟨hq, eq⟩ := t.getV h1 (by omega)
  obtain ⟨hc, ec⟩ := t.getV (q := c) (by omega) h3
  rw [eq, ec]
  by_cases e : q = c
  · subst e; exact Ord.irr O _
  · exact t.sv.getElem (by omega) hc
theorem Two.memU (t : Two lt a m b pre U V post d) {s : Nat} (h1 : a ≤ s) (h2 : s ≤ m) {x : α} (hx : x ∈ U.take (s - a)) : ∃ q, a ≤ q ∧ q < s ∧ d[q]! = x := by
  have l2 := t.lm
  obtain ⟨i, hi, rfl⟩ := List.getElem_of_mem hx
  rw [List.length_take] at hi
  obtain ⟨hq, eq⟩ := t.getU (q := a + i) (by omega) (by omega)
  refine ⟨a + i, by omega, by omega, ?_⟩
  rw [eq, List.getElem_take]
  congr 1; omega
theorem Two.memU' (t : Two lt a m b pre U V post d) {s : Nat} (h1 : a ≤ s) (h2 : s ≤ m) {x : α} (hx : x ∈ U.drop (s - a)) : ∃ q, s ≤ q ∧ q < m ∧ d[q]! = x := by
  have l2 := t.lm
  obtain ⟨i, hi, rfl⟩ := List.getElem_of_mem hx
  rw [List.length_drop] at hi
  obtain ⟨hq, eq⟩ := t.getU (q := s + i) (by omega) (by omega)
  refine ⟨s + i, by omega, by omega, ?_⟩
  rw [eq, List.getElem_drop]
  congr 1; omega
theorem Two.memV (t : Two lt a m b pre U V post d) {s : Nat} (h1 : m ≤ s) (h2 : s ≤ b) {x : α} (hx : x ∈ V.take (s - m)) : ∃ q, m ≤ q ∧ q < s ∧ d[q]! = x := by
  have l2 := t.lb
  obtain ⟨i, hi, rfl⟩ := List.getElem_of_mem hx
  rw [List.length_take] at hi
  obtain ⟨hq, eq⟩ := t.getV (q := m + i) (by omega) (by omega)
  refine ⟨m + i, by omega, by omega, ?_⟩
  rw [eq, List.getElem_take]
  congr 1; omega
theorem Two.memV' (t : Two lt a m b pre U V post d) {s : Nat} (h1 : m ≤ s) (h2 : s ≤ b) {x : α} (hx : x ∈ V.drop (s - m)) : ∃ q, s ≤ q ∧ q < b ∧ d[q]! = x := by
  have l2 := t.lb
  obtain ⟨i, hi, rfl⟩ := List.getElem_of_mem hx
  rw [List.length_drop] at hi
  obtain ⟨hq, eq⟩ := t.getV (q := s + i) (by omega) (by omega)
  refine ⟨s + i, by omega, by omega, ?_⟩
  rw [eq, List.getElem_drop]
  congr 1; omega
theorem Ord.lt_of (h : Stable.Ord lt) {x y z : α} (h1 : lt z x = true) (h2 : lt z y = false) : lt y x = true := by
  cases e : lt y x with
  | true => rfl
  | false => rw [h.skip z x y h1 e] at h2; cases h2
theorem Ord.lt_le (h : Stable.Ord lt) {x y z : α} (h1 : lt z x = true) (h2 : lt y x = false) : lt z y = true := h.skip z x y h1 h2
/-- (1) one on the left: the search among the right ones. -/
theorem Two.mono1 (O : Stable.Ord lt) (t : Two lt a m b pre U V post d) : Mono (fun q => lt d[q]! d[a]!) m b := fun q c h1 h2 h3 hp =>
  Ord.lt_of O hp (t.incV O h1 h2 h3)
theorem Two.one_left (O : Stable.Ord lt) (t : Two lt a m b pre U V post d) (h : m = a + 1) {i : Nat} (B : Bin (fun q => lt d[q]! d[a]!) m b i i) : MvR (pre ++ (merge lt U V ++ post)) i a d := by
  have l1 := t.la; have l2 := t.lm; have l3 := t.lb; have b1 := B.li; have b2 := B.jh
  obtain ⟨x, rfl⟩ : ∃ x, U = [x] := List.length_eq_one_iff.1 (by omega)
  obtain ⟨_, ex⟩ := t.getU (q := a) (Nat.le_refl _) (by omega)
  have ex : d[a]! = x := by rw [ex]; simp
  have e := one_merge (lt := lt) (V.take (i - m)) (V.drop (i - m)) x
    (fun y hy => by obtain ⟨q, q1, q2, rfl⟩ := t.memV (by omega) (by omega) hy; have := B.yes q q1 q2; rw [ex] at this; exact this)
    (fun y hy => by obtain ⟨q, q1, q2, rfl⟩ := t.memV' (by omega) (by omega) hy; have := B.no q q1 q2; rw [ex] at this; exact this)
  rw [List.take_append_drop] at e
  refine ⟨pre, V.take (i - m), V.drop (i - m) ++ post, x, l1, by rw [List.length_take]; omega, ?_, by rw [e]; simp⟩
  rw [t.list, ← List.append_assoc (V.take _), List.take_append_drop]; simp
/-- (2) one on the right: the search among the left ones. -/
theorem Two.mono2 (O : Stable.Ord lt) (t : Two lt a m b pre U V post d) : Mono (fun q => !lt d[m]! d[q]!) a m := fun q c h1 h2 h3 hp => by
  have hp : lt d[m]! d[c]! = false := by simpa using hp
  have := O.le_trans (t.incU O h1 h2 h3) hp
  simp [this]
theorem Two.one_right (O : Stable.Ord lt) (t : Two lt a m b pre U V post d) (h : b = m + 1) {i : Nat} (B : Bin (fun q => !lt d[m]! d[q]!) a m i i) : MvL (pre ++ (merge lt U V ++ post)) i m d := by
  have l1 := t.la; have l2 := t.lm; have l3 := t.lb; have b1 := B.li; have b2 := B.jh
  obtain ⟨x, rfl⟩ : ∃ x, V = [x] := List.length_eq_one_iff.1 (by omega)
  obtain ⟨_, ex⟩ := t.getV (q := m) (Nat.le_refl _) (by omega)
  have ex : d[m]! = x := by rw [ex]; simp
  have e := merge_one (lt := lt) (U.take (i - a)) (U.drop (i - a)) x
    (fun y hy => by obtain ⟨q, q1, q2, rfl⟩ := t.memU (by omega) (by omega) hy; have := B.yes q q1 q2; rw [ex] at this; simpa using this)
    (fun y hy => by obtain ⟨q, q1, q2, rfl⟩ := t.memU' (by omega) (by omega) hy; have := B.no q q1 q2; rw [ex] at this; simpa using this)
  rw [List.take_append_drop] at e
  refine ⟨pre ++ U.take (i - a), U.drop (i - a), post, x, by rw [List.length_append, List.length_take]; omega, by rw [List.length_drop]; omega, ?_, by rw [e]; simp⟩
  rw [t.list]
  simp only [List.append_assoc, List.cons_append, List.nil_append]
  rw [← List.append_assoc (List.take (i - a) U), List.take_append_drop]
/-- (3) parted in the middle. -/
theorem Two.mono3 (O : Stable.Ord lt) (t : Two lt a m b pre U V post d) {p lo hi : Nat} (h1 : a ≤ lo) (h2 : hi ≤ m) (h3 : ∀ c, lo ≤ c → c < hi → c ≤ p ∧ m ≤ p - c ∧ p - c < b) : Mono (fun c => !lt d[p - c]! d[c]!) lo hi := fun q c q1 q2 q3 hp => by
  have hp : lt d[p - c]! d[c]! = false := by simpa using hp
  have k1 := h3 c (by omega) q3
  have k2 := h3 q q1 (by omega)
  have e1 := t.incU O (q := q) (c := c) (by omega) q2 (by omega)
  have e2 := t.incV O (q := p - c) (c := p - q) (by omega) (by omega) (by omega)
  have := O.le_trans (O.le_trans e1 hp) e2
  simp [this]
/-- The bounds of the search, and what it must keep. -/
structure Mid (a m b mid lo hi : Nat) : Prop where
  am : a < m
  mb : m < b
  midd : mid = (a + b) / 2
  way : (m > mid ∧ lo + b = mid + m ∧ hi = mid) ∨ (m ≤ mid ∧ lo = a ∧ hi = m)
theorem Mid.facts {mid lo hi : Nat} (M : Mid a m b mid lo hi) : a ≤ lo ∧ lo ≤ hi ∧ hi ≤ m ∧ hi ≤ mid ∧ a < mid ∧ mid < b ∧ (∀ c, lo ≤ c → c < hi → c ≤ mid + m - 1 ∧ m ≤ mid + m - 1 - c ∧ mid + m - 1 - c < b) := by
  obtain ⟨h1, h2, h3, h4⟩ := M
  have k : 2 * mid ≤ a + b ∧ a + b ≤ 2 * mid + 1 := by omega
  clear h3
  rcases h4 with ⟨g1, g2, g3⟩ | ⟨g1, g2, g3⟩
  · refine ⟨by omega, by omega, by omega, by omega, by omega, by omega, fun c c1 c2 => ⟨by omega, by omega, by omega⟩⟩
  · refine ⟨by omega, by omega, by omega, by omega, by omega, by omega, fun c c1 c2 => ⟨by omega, by omega, by omega⟩⟩
theorem Two.parted (O : Stable.Ord lt) (t : Two lt a m b pre U V post d) {mid lo hi s : Nat} (M : Mid a m b mid lo hi) (B : Bin (fun c => !lt d[mid + m - 1 - c]! d[c]!) lo hi s s) :
    merge lt U V = merge lt (U.take (s - a)) (V.take (mid + m - s - m)) ++ merge lt (U.drop (s - a)) (V.drop (mid + m - s - m)) := by
  obtain ⟨f1, f2, f3, f4, f5, f6, f7⟩ := M.facts
  have b1 := B.li; have b2 := B.jh
  have w := M.way; have am := M.am; have mb := M.mb
  have eb : mid + m - s ≤ b := by
    rcases w with ⟨g1, g2, g3⟩ | ⟨g1, g2, g3⟩
    · omega
    · have := M.midd; omega
  have e := merge_split (lt := lt) (U.take (s - a)) (V.take (mid + m - s - m)) (U.drop (s - a)) (V.drop (mid + m - s - m)) ?_ ?_
  · rw [List.take_append_drop, List.take_append_drop] at e; exact e
  · intro x hx y hy
    obtain ⟨q, q1, q2, rfl⟩ := t.memU (by omega) (by omega) hx
    obtain ⟨r, r1, r2, rfl⟩ := t.memV' (by omega) eb hy
    have hs : lo < s := by
      rcases w with ⟨g1, g2, g3⟩ | ⟨g1, g2, g3⟩
      · omega
      · omega
    have hp := B.yes (s - 1) (by omega) (by omega)
    have hp : lt d[mid + m - 1 - (s - 1)]! d[s - 1]! = false := by simpa using hp
    rw [show mid + m - 1 - (s - 1) = mid + m - s by omega] at hp
    have e1 := t.incU O (q := q) (c := s - 1) (by omega) (by omega) (by omega)
    have e2 := t.incV O (q := mid + m - s) (c := r) (by omega) (by omega) (by omega)
    exact O.le_trans (O.le_trans e1 hp) e2
  · intro y hy x hx
    obtain ⟨q, q1, q2, rfl⟩ := t.memU' (by omega) (by omega) hx
    obtain ⟨r, r1, r2, rfl⟩ := t.memV (by omega) eb hy
    have hs : s < hi := by
      rcases w with ⟨g1, g2, g3⟩ | ⟨g1, g2, g3⟩
      · omega
      · omega
    have hp := B.no s (Nat.le_refl _) hs
    have hp : lt d[mid + m - 1 - s]! d[s]! = true := by simpa using hp
    have e1 := t.incU O (q := s) (c := q) (by omega) (by omega) (by omega)
    have e2 := t.incV O (q := r) (c := mid + m - 1 - s) (by omega) (by omega) (by omega)
    exact Ord.lt_of O (Ord.lt_le O hp e1) e2
end
/-- The list, when the middle has been turned; when the left half is one; when all is. -/
def St1 (U V pre post : List α) (a m s e n : Nat) (d : Array α) : Prop := d.toList = pre ++ (U.take (s - a) ++ (V.take (e - m) ++ (U.drop (s - a) ++ (V.drop (e - m) ++ post)))) ∧ d.size = n
def St2 (lt : α → α → Bool) (U V pre post : List α) (a m s e n : Nat) (d : Array α) : Prop := d.toList = (pre ++ merge lt (U.take (s - a)) (V.take (e - m))) ++ (U.drop (s - a) ++ (V.drop (e - m) ++ post)) ∧ d.size = n
def St3 (lt : α → α → Bool) (U V pre post : List α) (n : Nat) (d : Array α) : Prop := d.toList = pre ++ (merge lt U V ++ post) ∧ d.size = n
/-- Two sorted neighbours, and where they are parted. -/
structure Parts (lt : α → α → Bool) (a m b mid s e : Nat) (U V : List α) : Prop where
  sa : a ≤ s
  sm : s ≤ m
  smid : s ≤ mid
  me : m ≤ e
  eb : e ≤ b
  mide : mid ≤ e
  ee : e + s = mid + m
  lu : U.length + a = m
  lv : V.length + m = b
  su : Sorted lt U
  sv : Sorted lt V
  par : merge lt U V = merge lt (U.take (s - a)) (V.take (e - m)) ++ merge lt (U.drop (s - a)) (V.drop (e - m))
section
variable {lt : α → α → Bool} {a m b mid s e n : Nat} {pre U V post : List α} {d : Array α}
theorem Two.parts (O : Stable.Ord lt) (t : Two lt a m b pre U V post d) {lo hi : Nat} (M : Mid a m b mid lo hi) (B : Bin (fun c => !lt d[mid + m - 1 - c]! d[c]!) lo hi s s) : Parts lt a m b mid s (mid + m - s) U V := by
  obtain ⟨f1, f2, f3, f4, f5, f6, f7⟩ := M.facts
  have b1 := B.li; have b2 := B.jh
  have eb : mid + m - s ≤ b := by
    rcases M.way with ⟨g1, g2, g3⟩ | ⟨g1, g2, g3⟩
    · omega
    · have := M.midd; omega
  exact ⟨by omega, by omega, by omega, by omega, eb, by omega, by omega, t.lm, t.lb, t.su, t.sv, t.parted O M B⟩
theorem Parts.l1 (p : Parts lt a m b mid s e U V) : (U.take (s - a)).length = s - a ∧ (U.drop (s - a)).length = m - s ∧ (V.take (e - m)).length = e - m ∧ (V.drop (e - m)).length = b - e := by
  have h1 := p.sa; have h2 := p.sm; have h3 := p.me; have h4 := p.eb; have h5 := p.lu; have h6 := p.lv
  refine ⟨by rw [List.length_take]; omega, by rw [List.length_drop]; omega, by rw [List.length_take]; omega, by rw [List.length_drop]; omega⟩
theorem Parts.whole (p : Parts lt a m b mid s e U V) (h : d.toList = pre ++ (U ++ (V ++ post))) : d.toList = pre ++ (U.take (s - a) ++ (U.drop (s - a) ++ (V.take (e - m) ++ (V.drop (e - m) ++ post)))) := by
  rw [h, ← List.append_assoc (V.take _), List.take_append_drop, ← List.append_assoc (U.take _), List.take_append_drop]
theorem Parts.left (p : Parts lt a m b mid s e U V) (hp : pre.length = a) (h : d.toList = pre ++ (U ++ (V ++ post))) : Left m (pre ++ (U.take (s - a) ++ (V.take (e - m) ++ (U.drop (s - a) ++ (V.drop (e - m) ++ post))))) (m - s) (e - m) d := by
  obtain ⟨l1, l2, l3, l4⟩ := p.l1
  have h1 := p.sa; have h2 := p.sm
  refine ⟨pre ++ U.take (s - a), U.drop (s - a), V.take (e - m), V.drop (e - m) ++ post, l2, l3, by rw [List.length_append, l1]; omega, by rw [p.whole h]; simp, by simp⟩
theorem Parts.st1_none (p : Parts lt a m b mid s e U V) (h : d.toList = pre ++ (U ++ (V ++ post))) (hn : d.size = n) (hz : ¬ (s < m ∧ m < e)) : St1 U V pre post a m s e n d := by
  obtain ⟨l1, l2, l3, l4⟩ := p.l1
  have h1 := p.sm; have h2 := p.me
  refine ⟨?_, hn⟩
  rw [p.whole h]
  by_cases hs : s < m
  · have : V.take (e - m) = [] := List.eq_nil_of_length_eq_zero (by omega)
    rw [this]; simp
  · have : U.drop (s - a) = [] := List.eq_nil_of_length_eq_zero (by omega)
    rw [this]; simp
theorem St1.two (h : St1 U V pre post a m s e n d) (p : Parts lt a m b mid s e U V) (hp : pre.length = a) : Two lt a s mid pre (U.take (s - a)) (V.take (e - m)) (U.drop (s - a) ++ (V.drop (e - m) ++ post)) d := by
  obtain ⟨l1, l2, l3, l4⟩ := p.l1
  have h1 := p.sa; have h2 := p.sm; have h3 := p.me; have h4 := p.ee
  exact ⟨h.1, hp, by omega, by omega, p.su.sublist (List.take_sublist _ _), p.sv.sublist (List.take_sublist _ _)⟩
theorem St1.none (h : St1 U V pre post a m s e n d) (p : Parts lt a m b mid s e U V) (hz : ¬ (a < s ∧ s < mid)) : St2 lt U V pre post a m s e n d := by
  obtain ⟨l1, l2, l3, l4⟩ := p.l1
  have h1 := p.sa; have h2 := p.sm; have h3 := p.me; have h4 := p.ee; have h5 := p.smid
  refine ⟨?_, h.2⟩
  rw [h.1]
  by_cases hs : a < s
  · have : V.take (e - m) = [] := List.eq_nil_of_length_eq_zero (by omega)
    rw [this, merge_nil]; simp
  · have : U.take (s - a) = [] := List.eq_nil_of_length_eq_zero (by omega)
    rw [this, nil_merge]; simp
theorem St2.two (h : St2 lt U V pre post a m s e n d) (p : Parts lt a m b mid s e U V) (hp : pre.length = a) : Two lt mid e b (pre ++ merge lt (U.take (s - a)) (V.take (e - m))) (U.drop (s - a)) (V.drop (e - m)) post d := by
  obtain ⟨l1, l2, l3, l4⟩ := p.l1
  have h1 := p.sa; have h2 := p.sm; have h3 := p.me; have h4 := p.ee; have h5 := p.eb
  exact ⟨h.1, by rw [List.length_append, merge_length]; omega, by omega, by omega, p.su.sublist (List.drop_sublist _ _), p.sv.sublist (List.drop_sublist _ _)⟩
theorem St2.none (h : St2 lt U V pre post a m s e n d) (p : Parts lt a m b mid s e U V) (hz : ¬ (mid < e ∧ e < b)) : St3 lt U V pre post n d := by
  obtain ⟨l1, l2, l3, l4⟩ := p.l1
  have h1 := p.sa; have h2 := p.sm; have h3 := p.me; have h4 := p.ee; have h5 := p.smid; have h6 := p.eb; have h7 := p.mide
  refine ⟨?_, h.2⟩
  rw [h.1, p.par]
  by_cases hs : mid < e
  · have : V.drop (e - m) = [] := List.eq_nil_of_length_eq_zero (by omega)
    rw [this, merge_nil]; simp
  · have : U.drop (s - a) = [] := List.eq_nil_of_length_eq_zero (by omega)
    rw [this, nil_merge]; simp
theorem St3.of (p : Parts lt a m b mid s e U V) (h : d.toList = (pre ++ merge lt (U.take (s - a)) (V.take (e - m))) ++ (merge lt (U.drop (s - a)) (V.drop (e - m)) ++ post)) (hn : d.size = n) : St3 lt U V pre post n d :=
  ⟨by rw [h, p.par]; simp, hn⟩
theorem St2.of (h : d.toList = pre ++ (merge lt (U.take (s - a)) (V.take (e - m)) ++ (U.drop (s - a) ++ (V.drop (e - m) ++ post)))) (hn : d.size = n) : St2 lt U V pre post a m s e n d :=
  ⟨by rw [h]; simp, hn⟩
end
end
section
variable {α : Type} [Inhabited α] {lt : α → α → Bool}
theorem isort_one (x : α) : isort lt [x] = [x] := by
  rw [isort, List.foldl_cons, List.foldl_nil, nil_merge]
theorem isort_nil : isort lt ([] : List α) = [] := rfl
/-- x at place j, S's begin ahead of it, S's end, all greater, behind it. -/
def Ins (lt : α → α → Bool) (pre S rest : List α) (x : α) (a j : Nat) (dj : Array α) : Prop :=
  ∃ S1 S2 : List α, S = S1 ++ S2 ∧ S1.length + a = j ∧ (∀ e ∈ S2, lt x e = true) ∧ dj.toList = pre ++ (S1 ++ x :: (S2 ++ rest))
theorem Ins.start {pre S rest : List α} {x : α} {a i : Nat} {d : Array α} (h : d.toList = pre ++ (S ++ x :: rest)) (hl : S.length + a = i) : Ins lt pre S rest x a i d :=
  ⟨S, [], by simp, hl, by simp, by rw [h]; simp⟩
theorem Ins.cur {pre S rest : List α} {x : α} {a j : Nat} {dj : Array α} (h : Ins lt pre S rest x a j dj) (hp : pre.length = a) : dj[j]! = x := by
  obtain ⟨S1, S2, hS, hl, hg, hd⟩ := h
  have := get_at dj (pre ++ S1) (S2 ++ rest) x (by rw [hd]; simp)
  rw [show (pre ++ S1).length = j by rw [List.length_append]; omega] at this
  exact this
theorem Ins.step {pre S rest : List α} {x : α} {a j : Nat} {dj : Array α} (h : Ins lt pre S rest x a (j + 1) dj) (hp : pre.length = a) (hj : a < j + 1) (hlt : lt dj[j + 1]! dj[j]! = true) : Ins lt pre S rest x a j (swp dj (j + 1) j) := by
  have hc := h.cur hp
  obtain ⟨S1, S2, hS, hl, hg, hd⟩ := h
  have hne : S1 ≠ [] := by intro e; subst e; simp at hl; omega
  have e : S1 = S1.dropLast ++ [S1.getLast hne] := (List.dropLast_concat_getLast hne).symm
  have hl' : S1.dropLast.length + a = j := by rw [List.length_dropLast]; omega
  generalize S1.dropLast = S1' at e hl'
  generalize S1.getLast hne = y at e
  subst e
  have hy : dj[j]! = y := by
    have := get_at dj (pre ++ S1') (x :: (S2 ++ rest)) y (by rw [hd]; simp)
    rw [show (pre ++ S1').length = j by rw [List.length_append]; omega] at this
    exact this
  rw [hc, hy] at hlt
  have s := swp_list' dj (pre ++ S1') [] (S2 ++ rest) y x (by rw [hd]; simp)
  rw [show (pre ++ S1').length = j by rw [List.length_append]; omega] at s
  refine ⟨S1', y :: S2, by rw [hS]; simp, hl', ?_, by rw [show j + 1 = j + 1 + ([] : List α).length from rfl, s]; simp⟩
  intro e he
  rcases List.mem_cons.1 he with rfl | he
  · exact hlt
  · exact hg e he
theorem Ins.done (O : Stable.Ord lt) {pre S rest : List α} {x : α} {a j : Nat} {dj : Array α} (h : Ins lt pre S rest x a j dj) (hp : pre.length = a) (hs : Sorted lt S) (hstop : j ≤ a ∨ lt dj[j]! dj[j - 1]! = false) : dj.toList = pre ++ (merge lt S [x] ++ rest) := by
  have hc := h.cur hp
  obtain ⟨S1, S2, hS, hl, hg, hd⟩ := h
  have h1 : ∀ e ∈ S1, lt x e = false := by
    intro e he
    rcases hstop with hstop | hstop
    · have : S1 = [] := List.eq_nil_of_length_eq_zero (by omega)
      subst this; cases he
    · have hne : S1 ≠ [] := by intro e; subst e; cases he
      have e1 : S1 = S1.dropLast ++ [S1.getLast hne] := (List.dropLast_concat_getLast hne).symm
      have hl' : S1.dropLast.length + a + 1 = j := by rw [List.length_dropLast]; have := List.length_pos_iff.2 hne; omega
      generalize S1.dropLast = S1' at e1 hl'
      generalize S1.getLast hne = y at e1
      subst e1
      have hy : dj[j - 1]! = y := by
        have := get_at dj (pre ++ S1') (x :: (S2 ++ rest)) y (by rw [hd]; simp)
        rw [show (pre ++ S1').length = j - 1 by rw [List.length_append]; omega] at this
        exact this
      rw [hc, hy] at hstop
      rcases List.mem_append.1 he with he | he
      · subst hS
        have hs' : Sorted lt (S1' ++ [y]) := (List.pairwise_append.1 hs).1
        have := (List.pairwise_append.1 hs').2.2 e he y List.mem_cons_self
        exact O.le_trans this hstop
      · rw [List.mem_singleton] at he; subst he; exact hstop
  rw [hd, hS, merge_one S1 S2 x h1 hg]; simp
/-- What the outer loop has done. -/
def Outer (lt : α → α → Bool) (pre seg post : List α) (a i : Nat) (d : Array α) : Prop := d.toList = pre ++ (isort lt (seg.take (i - a)) ++ (seg.drop (i - a) ++ post))
theorem Outer.start {pre seg post : List α} {a : Nat} {d : Array α} (h : d.toList = pre ++ (seg ++ post)) : Outer lt pre seg post a (a + 1) d := by
  unfold Outer
  rw [show a + 1 - a = 1 by omega, h]
  cases seg with
  | nil => rfl
  | cons x seg => simp [isort_one]
theorem Outer.next {pre seg post : List α} {a i : Nat} {d : Array α} (h : Outer lt pre seg post a i d) (hi : a < i) (hb : i < seg.length + a) : ∃ x, Ins lt pre (isort lt (seg.take (i - a))) (seg.drop (i + 1 - a) ++ post) x a i d ∧ ∀ d' : Array α, d'.toList = pre ++ (merge lt (isort lt (seg.take (i - a))) [x] ++ (seg.drop (i + 1 - a) ++ post)) → Outer lt pre seg post a (i + 1) d' := by
  have hl : i - a < seg.length := by omega
  refine ⟨seg[i - a], Ins.start ?_ ?_, fun d' h' => ?_⟩
  · unfold Outer at h
    rw [h, List.drop_eq_getElem_cons hl, show i - a + 1 = i + 1 - a by omega]; simp
  · rw [isort_length, List.length_take]; omega
  · unfold Outer
    rw [h', ← isort_snoc, show i + 1 - a = i - a + 1 by omega, List.take_add_one, List.getElem?_eq_getElem hl]; rfl
theorem Outer.done {pre seg post : List α} {a i : Nat} {d : Array α} (h : Outer lt pre seg post a i d) (hb : ¬ i < seg.length + a) : d.toList = pre ++ (isort lt seg ++ post) := by
  unfold Outer at h
  rw [h, List.take_of_length_le (by omega), List.drop_of_length_le (by omega)]; simp
/-- Blocks of s elements (the last one of at most so many), each sorted. -/
inductive Blk (lt : α → α → Bool) (s : Nat) : List α → List α → Prop
  | last (l : List α) : l.length ≤ s → Blk lt s l (isort lt l)
  | cons (l1 l2 t2 : List α) : l1.length = s → Blk lt s l2 t2 → Blk lt s (l1 ++ l2) (isort lt l1 ++ t2)
theorem Blk.whole {s : Nat} {l t : List α} (h : Blk lt s l t) : l.length ≤ s → t = isort lt l := by
  induction h with
  | last l h => intro _; rfl
  | cons l1 l2 t2 h1 h2 ih =>
    intro h
    rw [List.length_append] at h
    have : l2 = [] := List.eq_nil_of_length_eq_zero (by omega)
    subst this
    rw [ih (by simp), isort_nil]; simp
theorem Blk.split {s : Nat} {l t : List α} (h : Blk lt s l t) (hl : s ≤ l.length) : ∃ l1 l2 t2, l = l1 ++ l2 ∧ l1.length = s ∧ t = isort lt l1 ++ t2 ∧ Blk lt s l2 t2 := by
  cases h with
  | last l h => exact ⟨l, [], [], by simp, by omega, by simp, Blk.last [] (by simp)⟩
  | cons l1 l2 t2 h1 h2 => exact ⟨l1, l2, t2, rfl, h1, rfl, h2⟩
theorem Blk.length {s : Nat} {l t : List α} (h : Blk lt s l t) : t.length = l.length := by
  induction h with
  | last l h => exact isort_length l
  | cons l1 l2 t2 h1 h2 ih => rw [List.length_append, List.length_append, isort_length, ih]
/-- The first pass: blocks that have been sorted, the rest as it was. -/
def Pass0 (lt : α → α → Bool) (s : Nat) (l : List α) (a : Nat) (d : Array α) : Prop := ∃ T lr : List α, d.toList = T ++ lr ∧ T.length = a ∧ lr.length + a = l.length ∧ ∀ t, Blk lt s lr t → Blk lt s l (T ++ t)
theorem Pass0.start (s : Nat) (d : Array α) : Pass0 lt s d.toList 0 d := ⟨[], d.toList, rfl, rfl, rfl, fun t h => h⟩
theorem Pass0.next {s a : Nat} {l : List α} {d : Array α} (h : Pass0 lt s l a d) (hb : a + s ≤ l.length) : ∃ pre seg post : List α, d.toList = pre ++ (seg ++ post) ∧ pre.length = a ∧ seg.length = s ∧ ∀ d' : Array α, d'.toList = pre ++ (isort lt seg ++ post) → Pass0 lt s l (a + s) d' := by
  obtain ⟨T, lr, hd, hT, hl, hc⟩ := h
  refine ⟨T, lr.take s, lr.drop s, by rw [hd, List.take_append_drop], hT, by rw [List.length_take]; omega, fun d' h' => ⟨T ++ isort lt (lr.take s), lr.drop s, by rw [h']; simp, by rw [List.length_append, isort_length, List.length_take]; omega, by rw [List.length_drop]; omega, fun t ht => ?_⟩⟩
  have := Blk.cons (lr.take s) (lr.drop s) t (by rw [List.length_take]; omega) ht
  rw [List.take_append_drop] at this
  rw [List.append_assoc]
  exact hc _ this
theorem Pass0.last {s a : Nat} {l : List α} {d : Array α} (h : Pass0 lt s l a d) (hb : ¬ a + s ≤ l.length) : ∃ pre seg : List α, d.toList = pre ++ (seg ++ []) ∧ pre.length = a ∧ seg.length + a = l.length ∧ ∀ d' : Array α, d'.toList = pre ++ (isort lt seg ++ []) → Blk lt s l d'.toList := by
  obtain ⟨T, lr, hd, hT, hl, hc⟩ := h
  refine ⟨T, lr, by rw [hd]; simp, hT, hl, fun d' h' => ?_⟩
  rw [h', List.append_nil]
  exact hc _ (Blk.last lr (by omega))
/-- A pass that joins neighbours: those that have been joined, the rest as it was. -/
def Pass (lt : α → α → Bool) (s : Nat) (l : List α) (a : Nat) (d : Array α) : Prop := ∃ T lr t : List α, d.toList = T ++ t ∧ T.length = a ∧ lr.length + a = l.length ∧ Blk lt s lr t ∧ ∀ t', Blk lt (2 * s) lr t' → Blk lt (2 * s) l (T ++ t')
theorem Pass.start {s : Nat} {l : List α} {d : Array α} (h : Blk lt s l d.toList) : Pass lt s l 0 d := ⟨[], l, d.toList, rfl, rfl, rfl, h, fun t h => h⟩
theorem Pass.next (O : Stable.Ord lt) {s a : Nat} {l : List α} {d : Array α} (h : Pass lt s l a d) (hb : a + 2 * s ≤ l.length) : ∃ pre U V post : List α, Two lt a (a + s) (a + 2 * s) pre U V post d ∧ ∀ d' : Array α, d'.toList = pre ++ (merge lt U V ++ post) → Pass lt s l (a + 2 * s) d' := by
  obtain ⟨T, lr, t, hd, hT, hl, hB, hc⟩ := h
  obtain ⟨l1, r1, t1, rfl, h1, rfl, hB1⟩ := hB.split (by omega)
  rw [List.length_append] at hl
  obtain ⟨l2, r2, t2, rfl, h2, rfl, hB2⟩ := hB1.split (by omega)
  rw [List.length_append] at hl
  refine ⟨T, isort lt l1, isort lt l2, t2, ⟨hd, hT, by rw [isort_length]; omega, by rw [isort_length]; omega, isort_sorted O l1, isort_sorted O l2⟩, fun d' h' => ⟨T ++ isort lt (l1 ++ l2), r2, t2, by rw [h', isort_append O]; simp, by rw [List.length_append, isort_length, List.length_append]; omega, by omega, hB2, fun t' ht' => ?_⟩⟩
  have := hc _ (by rw [← List.append_assoc]; exact Blk.cons (l1 ++ l2) r2 t' (by rw [List.length_append]; omega) ht')
  rwa [List.append_assoc]
theorem Pass.last (O : Stable.Ord lt) {s a : Nat} {l : List α} {d : Array α} (h : Pass lt s l a d) (hb : ¬ a + 2 * s ≤ l.length) (hm : a + s < l.length) : ∃ pre U V : List α, Two lt a (a + s) l.length pre U V [] d ∧ ∀ d' : Array α, d'.toList = pre ++ (merge lt U V ++ []) → Blk lt (2 * s) l d'.toList := by
  obtain ⟨T, lr, t, hd, hT, hl, hB, hc⟩ := h
  obtain ⟨l1, r1, t1, rfl, h1, rfl, hB1⟩ := hB.split (by omega)
  rw [List.length_append] at hl
  have e1 := hB1.whole (by omega)
  subst e1
  refine ⟨T, isort lt l1, isort lt r1, ⟨by rw [hd]; simp, hT, by rw [isort_length]; omega, by rw [isort_length]; omega, isort_sorted O l1, isort_sorted O r1⟩, fun d' h' => ?_⟩
  rw [h', List.append_nil, ← isort_append O]
  exact hc _ (Blk.last _ (by rw [List.length_append]; omega))
theorem Pass.none {s a : Nat} {l : List α} {d : Array α} (h : Pass lt s l a d) (hb : ¬ a + 2 * s ≤ l.length) (hm : ¬ a + s < l.length) : Blk lt (2 * s) l d.toList := by
  obtain ⟨T, lr, t, hd, hT, hl, hB, hc⟩ := h
  have e1 := hB.whole (by omega)
  rw [hd, e1]
  exact hc _ (Blk.last _ (by omega))
end
end Go.Proofs.Ytaonabfnagmogaa.St
