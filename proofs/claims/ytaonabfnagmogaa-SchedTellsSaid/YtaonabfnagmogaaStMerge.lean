/- Plain law of the stable sort: merging goes together in whatever brackets; what insertion, search and turning make. No program in sight. -/
set_option linter.unusedVariables false
namespace Go.Proofs.Ytaonabfnagmogaa.Stable
section
variable {α : Type}
/-- 'lt' orders, up to equals. -/
structure Ord (lt : α → α → Bool) : Prop where
  trans : ∀ a b c, lt a b = true → lt b c = true → lt a c = true
  skip : ∀ z x y, lt z x = true → lt y x = false → lt z y = true
  asym : ∀ a b, lt a b = true → lt b a = false
variable (lt : α → α → Bool)
/-- Two lists in one; of equals the first list's come first. -/
def merge : List α → List α → List α
  | [], v => v
  | x :: u, [] => x :: u
  | x :: u, y :: v => if lt y x = true then y :: merge (x :: u) v else x :: merge u (y :: v)
theorem merge_nil (u : List α) : merge lt u [] = u := by cases u <;> rw [merge]
theorem nil_merge (v : List α) : merge lt [] v = v := by rw [merge]
theorem merge_length : ∀ u v : List α, (merge lt u v).length = u.length + v.length
  | [], v => by rw [merge]; simp
  | x :: u, [] => by rw [merge]; simp
  | x :: u, y :: v => by
    rw [merge]
    split
    · rw [List.length_cons, merge_length (x :: u) v]; simp; omega
    · rw [List.length_cons, merge_length u (y :: v)]; simp; omega
variable {lt}
theorem merge_assoc (h : Ord lt) : ∀ a b c : List α, merge lt (merge lt a b) c = merge lt a (merge lt b c)
  | [], b, c => by rw [merge, merge]
  | x :: a, [], c => by rw [merge, merge]
  | x :: a, y :: b, [] => by rw [merge_nil, merge_nil]
  | x :: a, y :: b, z :: c => by
    cases hyx : lt y x with
    | false =>
      cases hzx : lt z x with
      | true =>
        have hzy := h.skip z x y hzx hyx
        have e := merge_assoc h (x :: a) (y :: b) c
        have l1 : merge lt (x :: a) (y :: b) = x :: merge lt a (y :: b) := by rw [merge, if_neg (by simp [hyx])]
        have r1 : merge lt (y :: b) (z :: c) = z :: merge lt (y :: b) c := by rw [merge, if_pos hzy]
        rw [l1, merge, if_pos hzx, r1, merge, if_pos hzx, ← l1, e]
      | false =>
        have e := merge_assoc h a (y :: b) (z :: c)
        have l1 : merge lt (x :: a) (y :: b) = x :: merge lt a (y :: b) := by rw [merge, if_neg (by simp [hyx])]
        rw [l1, merge, if_neg (by simp [hzx]), e]
        cases hzy : lt z y with
        | true =>
          have r1 : merge lt (y :: b) (z :: c) = z :: merge lt (y :: b) c := by rw [merge, if_pos hzy]
          rw [r1, merge, if_neg (by simp [hzx])]
        | false =>
          have r1 : merge lt (y :: b) (z :: c) = y :: merge lt b (z :: c) := by rw [merge, if_neg (by simp [hzy])]
          rw [r1, merge, if_neg (by simp [hyx])]
    | true =>
      have l1 : merge lt (x :: a) (y :: b) = y :: merge lt (x :: a) b := by rw [merge, if_pos hyx]
      cases hzy : lt z y with
      | true =>
        have hzx := h.trans z y x hzy hyx
        have e := merge_assoc h (x :: a) (y :: b) c
        have r1 : merge lt (y :: b) (z :: c) = z :: merge lt (y :: b) c := by rw [merge, if_pos hzy]
        rw [l1, merge, if_pos hzy, r1, merge, if_pos hzx, ← l1, e]
      | false =>
        have e := merge_assoc h (x :: a) b (z :: c)
        have r1 : merge lt (y :: b) (z :: c) = y :: merge lt b (z :: c) := by rw [merge, if_neg (by simp [hzy])]
        rw [l1, merge, if_neg (by simp [hzy]), r1, merge, if_pos hyx, e]
termination_by a b c => a.length + b.length + c.length
theorem merge_split : ∀ (u1 v1 u2 v2 : List α), (∀ x ∈ u1, ∀ y ∈ v2, lt y x = false) → (∀ y ∈ v1, ∀ x ∈ u2, lt y x = true) → merge lt (u1 ++ u2) (v1 ++ v2) = merge lt u1 v1 ++ merge lt u2 v2
  | [], [], u2, v2, _, _ => by rw [merge]; rfl
  | x :: u1, [], u2, v2, h1, h2 => by
    have ih := merge_split u1 [] u2 v2 (fun a ha => h1 a (List.mem_cons_of_mem _ ha)) h2
    rw [List.nil_append] at ih ⊢
    rw [merge_nil] at ih ⊢
    cases v2 with
    | nil => rw [merge_nil, merge_nil]
    | cons y v2 =>
      rw [List.cons_append, merge, if_neg (by rw [h1 x List.mem_cons_self y List.mem_cons_self]; simp), ih]; rfl
  | [], y :: v1, u2, v2, h1, h2 => by
    have ih := merge_split [] v1 u2 v2 h1 (fun a ha => h2 a (List.mem_cons_of_mem _ ha))
    rw [List.nil_append] at ih ⊢
    rw [nil_merge] at ih ⊢
    cases u2 with
    | nil => rw [nil_merge, nil_merge]
    | cons x u2 =>
      rw [List.cons_append, merge, if_pos (h2 y List.mem_cons_self x List.mem_cons_self), ih]; rfl
  | x :: u1, y :: v1, u2, v2, h1, h2 => by
    rw [List.cons_append, List.cons_append, merge, merge]
    split
    · have ih := merge_split (x :: u1) v1 u2 v2 h1 (fun a ha => h2 a (List.mem_cons_of_mem _ ha))
      rw [List.cons_append] at ih
      rw [ih]; rfl
    · have ih := merge_split u1 (y :: v1) u2 v2 (fun a ha => h1 a (List.mem_cons_of_mem _ ha)) h2
      rw [List.cons_append] at ih
      rw [ih]; rfl
termination_by u1 v1 => u1.length + v1.length
variable (lt)
/-- None is ahead of one that stands before it. -/
def Sorted (l : List α) : Prop := l.Pairwise fun a b => lt b a = false
/-- The stable order. -/
def isort (l : List α) : List α := l.foldl (fun s x => merge lt s [x]) []
variable {lt}
theorem mem_merge : ∀ {u v : List α} {z : α}, z ∈ merge lt u v → z ∈ u ∨ z ∈ v
  | [], v, z, h => by rw [merge] at h; exact .inr h
  | x :: u, [], z, h => by rw [merge] at h; exact .inl h
  | x :: u, y :: v, z, h => by
    rw [merge] at h
    split at h
    · rcases List.mem_cons.1 h with rfl | h
      · exact .inr List.mem_cons_self
      · rcases mem_merge h with h | h
        · exact .inl h
        · exact .inr (List.mem_cons_of_mem _ h)
    · rcases List.mem_cons.1 h with rfl | h
      · exact .inl List.mem_cons_self
      · rcases mem_merge h with h | h
        · exact .inl (List.mem_cons_of_mem _ h)
        · exact .inr h
theorem Ord.le_trans (h : Ord lt) {a b c : α} (h1 : lt b a = false) (h2 : lt c b = false) : lt c a = false := by
  cases hc : lt c a with
  | false => rfl
  | true => exact absurd (h.skip c a b hc h1) (by simp [h2])
theorem merge_sorted (h : Ord lt) : ∀ {u v : List α}, Sorted lt u → Sorted lt v → Sorted lt (merge lt u v)
  | [], v, _, hv => by rw [merge]; exact hv
  | x :: u, [], hu, _ => by rw [merge]; exact hu
  | x :: u, y :: v, hu, hv => by
    obtain ⟨hu1, hu2⟩ := List.pairwise_cons.1 hu
    obtain ⟨hv1, hv2⟩ := List.pairwise_cons.1 hv
    rw [merge]
    split
    · rename_i hyx
      refine List.pairwise_cons.2 ⟨fun z hz => ?_, merge_sorted h hu hv2⟩
      rcases mem_merge hz with hz | hz
      · rcases List.mem_cons.1 hz with rfl | hz
        · exact h.asym _ _ hyx
        · exact h.le_trans (h.asym _ _ hyx) (hu1 z hz)
      · exact hv1 z hz
    · rename_i hyx
      have hyx' : lt y x = false := by simpa using hyx
      refine List.pairwise_cons.2 ⟨fun z hz => ?_, merge_sorted h hu2 hv⟩
      rcases mem_merge hz with hz | hz
      · exact hu1 z hz
      · rcases List.mem_cons.1 hz with rfl | hz
        · exact hyx'
        · exact h.le_trans hyx' (hv1 z hz)
termination_by u v => u.length + v.length
theorem foldl_merge (h : Ord lt) : ∀ (l s : List α), l.foldl (fun s x => merge lt s [x]) s = merge lt s (isort lt l)
  | [], s => by rw [isort, List.foldl_nil, List.foldl_nil, merge_nil]
  | x :: l, s => by
    rw [isort, List.foldl_cons, List.foldl_cons, foldl_merge h l, foldl_merge h l, nil_merge, merge_assoc h]
theorem isort_append (h : Ord lt) (a b : List α) : isort lt (a ++ b) = merge lt (isort lt a) (isort lt b) := by
  conv => lhs; rw [isort, List.foldl_append]
  rw [foldl_merge h b]; rfl
theorem isort_snoc (l : List α) (x : α) : isort lt (l ++ [x]) = merge lt (isort lt l) [x] := by
  rw [isort, List.foldl_append]; rfl
theorem isort_length (l : List α) : (isort lt l).length = l.length := by
  have : ∀ (l s : List α), (l.foldl (fun s x => merge lt s [x]) s).length = s.length + l.length := by
    intro l
    induction l with
    | nil => intro s; simp
    | cons x l ih => intro s; rw [List.foldl_cons, ih, merge_length]; simp; omega
  have := this l []
  simpa [isort] using this
theorem isort_sorted (h : Ord lt) (l : List α) : Sorted lt (isort lt l) := by
  have : ∀ (l s : List α), Sorted lt s → Sorted lt (l.foldl (fun s x => merge lt s [x]) s) := by
    intro l
    induction l with
    | nil => intro s hs; exact hs
    | cons x l ih => intro s hs; exact ih _ (merge_sorted h hs (List.pairwise_singleton _ _))
  exact this l [] List.Pairwise.nil
/-- One behind a sorted list goes where none ahead of it is greater, and all behind it are. -/
theorem merge_one (s1 s2 : List α) (x : α) (h1 : ∀ e ∈ s1, lt x e = false) (h2 : ∀ e ∈ s2, lt x e = true) : merge lt (s1 ++ s2) [x] = s1 ++ x :: s2 := by
  have := merge_split (lt := lt) s1 [] s2 [x] (fun a ha y hy => by rw [List.mem_singleton] at hy; subst hy; exact h1 a ha) (fun y hy => by cases hy)
  rw [List.nil_append, merge_nil] at this
  rw [this]
  congr 1
  have h3 := merge_split (lt := lt) [] [x] s2 [] (fun a ha => by cases ha) (fun y hy a ha => by rw [List.mem_singleton] at hy; subst hy; exact h2 a ha)
  rw [List.nil_append, List.append_nil, nil_merge, merge_nil] at h3
  exact h3
/-- One ahead of a sorted list. -/
theorem one_merge (v1 v2 : List α) (x : α) (h1 : ∀ e ∈ v1, lt e x = true) (h2 : ∀ e ∈ v2, lt e x = false) : merge lt [x] (v1 ++ v2) = v1 ++ x :: v2 := by
  have := merge_split (lt := lt) [] v1 [x] v2 (fun a ha => by cases ha) (fun y hy a ha => by rw [List.mem_singleton] at ha; subst ha; exact h1 y hy)
  rw [List.nil_append, nil_merge] at this
  rw [this]
  congr 1
  have h3 := merge_split (lt := lt) [x] [] [] v2 (fun a ha y hy => by rw [List.mem_singleton] at ha; subst ha; exact h2 y hy) (fun y hy => by cases hy)
  rw [List.nil_append, List.append_nil, nil_merge, merge_nil] at h3
  exact h3
theorem Sorted.getElem {l : List α} (hs : Sorted lt l) {i j : Nat} (hij : i < j) (hj : j < l.length) : lt l[j] (l[i]'(by omega)) = false := (List.pairwise_iff_getElem.1 hs) i j (by omega) hj hij
end
end Go.Proofs.Ytaonabfnagmogaa.Stable
