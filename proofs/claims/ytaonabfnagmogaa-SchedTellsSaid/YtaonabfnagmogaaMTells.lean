/- Plain law of SchedTells: the program's answer and the document's are the same. -/
import Derived.Test.YtaonabfnagmogaaMSlot
import Derived.Test.YtaonabfnagmogaaSTells
set_option linter.unusedVariables false
set_option linter.unusedSimpArgs false
namespace Go.Proofs.Ytaonabfnagmogaa.M
open Go.RowKit Go.Proofs.Ytaonabfnagmogaa.S Go.Proofs.YtaonabfnagmogaaW.PrintWords Go.Proofs.YtaonabfnagmogaaW.PrintLast Go.Proofs.YtaonabfnagmogaaW.PrintMore Go.Proofs.Ytaonabfnagmogaa.Stable Go.Proofs.Ytaonabfnagmogaa.St
theorem due_one (now : Int) (x : S27) (h : (x.f3 != 0) = true) : sched_DueN.f now [x] = some (if dueV x now = true then [x] else []) := by
  unfold sched_DueN.f dueN
  rw [if_pos (by simp), if_pos (by simp [h])]
  by_cases hd : dueV x now = true
  · haveI : Inhabited S27 := ⟨z27⟩
    rw [if_pos hd, List.filter_cons_of_pos (by exact hd), List.filter_nil, isort_one]
  · rw [if_neg hd, List.filter_cons_of_neg (by exact hd), List.filter_nil]; rfl
theorem liveN_at : klaxonlaw19_liveN.f 40 = some true := by
  unfold klaxonlaw19_liveN.f
  rw [due_one 12 _ rfl, due_one 13 _ rfl, due_one 40 _ rfl]
  decide +kernel
theorem liveN_some : Ev (fun k => (klaxonlaw19_liveN.f k).bind fun t => some t) true := Ev.bind (Ev.of klaxonlaw19_liveN.mono liveN_at) (Ev.now true)
theorem slotR_sl (x : S27) (t : Int) (h : 0 < x.f3) (h0 : 0 ≤ x.f4) (h1 : x.f4 ≤ 86400) (ht : -1000000 ≤ t) (ht2 : t ≤ 4398046511104) : slotR x t = sl x.f3 x.f4 t := by
  have e : wrap64 (t - x.f4) = t - x.f4 := by unfold wrap64; omega
  unfold slotR sl
  rw [e]
  by_cases hlt : t < x.f4
  · rw [if_pos hlt, if_pos hlt]
  · rw [if_neg hlt, if_neg hlt, Int.tdiv_eq_ediv_of_nonneg (by omega)]
    have h2 := Int.ediv_nonneg (show 0 ≤ t - x.f4 by omega) (Int.le_of_lt h)
    have h3 : (t - x.f4) / x.f3 ≤ t - x.f4 := Int.ediv_le_self _ (by omega)
    unfold wrap64; omega
theorem slot_same (x : S27) (t : Int) (hr : Right x) (ht : -1000000 ≤ t) (ht2 : t ≤ 4398046511104) : slotR x t = slotV x t := by
  obtain ⟨r1, r2, r3, r4, r5, r6⟩ := hr
  rw [slotR_sl x t (by omega) r3 (by omega) ht ht2, slotV_sl x t (by omega) r3 (by omega) ht ht2]
theorem is_same (x : S27) (now : Int) (hr : Right x) (h0 : 0 ≤ now) (h1 : now ≤ 1099511627776) : isR x now = dueV x now := by
  unfold isR dueV
  have r := hr
  obtain ⟨r1, r2, r3, r4, r5, r6⟩ := hr
  rw [slot_same x now r (by omega) (by omega), slot_same x x.f6 r (by omega) (by omega)]
/-- The first moment behind a time, as the program reckons it. -/
def nxV (x : S27) (t : Int) : Int := wrap64 (wrap64 (wrap64 (slotV x t + 1) * x.f3) + x.f4)
theorem nextV (x : S27) (t : Int) (h : x.f3 ≠ 0) : sched_Next.f x.f0 x.f1 x.f2 x.f3 x.f4 x.f5 x.f6 t = some (nxV x t) := by
  unfold sched_Next.f
  rw [slot_tells x t h]; rfl
theorem nextR (x : S27) (t : Int) (hr : Right x) (ht : -1000000 ≤ t) (ht2 : t ≤ 4398046511104) : klaxonref19_Next.f x.f0 x.f1 x.f2 x.f3 x.f4 x.f5 x.f6 t = some (nxV x t) := by
  unfold klaxonref19_Next.f
  have r := hr
  obtain ⟨r1, r2, r3, r4, r5, r6⟩ := hr
  rw [slotR_tells x t (by omega), Option.bind_some, slot_same x t r ht ht2, Int.add_comm x.f4]; rfl
theorem next_due (x : S27) (now : Int) (hr : Right x) (h0 : 0 ≤ now) (h1 : now ≤ 1099511627776) (hd : isR x now = true) : mx now (nxV x x.f6) = now := by
  have r := hr
  obtain ⟨r1, r2, r3, r4, r5, r6⟩ := hr
  have hI : 0 < x.f3 := by omega
  rw [is_same x now r h0 h1] at hd
  unfold dueV at hd
  split at hd
  · cases hd
  · have hlt := of_decide_eq_true hd
    rw [slotV_sl x now hI r3 (by omega) (by omega) (by omega), slotV_sl x x.f6 hI r3 (by omega) (by omega) (by omega)] at hlt
    unfold nxV
    rw [slotV_sl x x.f6 hI r3 (by omega) (by omega) (by omega)]
    have g : -1 ≤ sl x.f3 x.f4 x.f6 := by
      unfold sl
      split
      · omega
      · have := Int.ediv_nonneg (show 0 ≤ x.f6 - x.f4 by omega) (Int.le_of_lt hI); omega
    generalize sl x.f3 x.f4 x.f6 = s at hlt g ⊢
    have hnow : (s + 1) * x.f3 + x.f4 ≤ now := by
      unfold sl at hlt
      split at hlt
      · omega
      · have e := Int.mul_ediv_add_emod (now - x.f4) x.f3
        have q0 := Int.emod_nonneg (now - x.f4) (show x.f3 ≠ 0 by omega)
        generalize (now - x.f4) / x.f3 = q at *
        have : (s + 1) * x.f3 ≤ q * x.f3 := Int.mul_le_mul_of_nonneg_right (by omega) (by omega)
        rw [Int.mul_comm q] at this
        omega
    have p0 : 0 ≤ (s + 1) * x.f3 := Int.mul_nonneg (by omega) (by omega)
    have s1 : s + 1 ≤ (s + 1) * x.f3 := by
      have : (s + 1) * 1 ≤ (s + 1) * x.f3 := Int.mul_le_mul_of_nonneg_left (by omega) (by omega)
      omega
    have e1 : wrap64 (s + 1) = s + 1 := by unfold wrap64; omega
    rw [e1]
    generalize (s + 1) * x.f3 = p at *
    have e2 : wrap64 p = p := by unfold wrap64; omega
    rw [e2]
    have e3 : wrap64 (p + x.f4) = p + x.f4 := by unfold wrap64; omega
    rw [e3]
    unfold mx
    split <;> omega
/-- The time that is told, with one job more. -/
def wk (now : Int) (s : Int × Bool) (x : S27) : Int × Bool :=
  if x.f5 = true then s else if s.2 = true then (if mx now (nxV x x.f6) < s.1 then (mx now (nxV x x.f6), true) else s) else (mx now (nxV x x.f6), true)
theorem wakeV (now : Int) (l : List S27) (hl : l.length ≤ 60) (hR : ∀ x ∈ l, Right x) : ∀ (d i : Nat) (s : Int × Bool), i + d = l.length → Ev (fun k => sched_Wake.l0 k now s.1 s.2 l (l.length : Int) (i : Int)) ((l.drop i).foldl (wk now) s)
  | 0, i, s, hi => by
    rw [List.drop_of_length_le (by omega), List.foldl_nil]
    refine Ev.step (fun k => ?_) (Ev.now _)
    rw [sched_Wake.l0, if_neg (by omega)]
  | d + 1, i, s, hi => by
    have hlt : i < l.length := by omega
    have hr := hR _ (List.getElem_mem hlt)
    have ih := wakeV now l hl hR d (i + 1) (wk now s l[i]) (by omega)
    rw [List.drop_eq_getElem_cons hlt, List.foldl_cons]
    refine Ev.step (fun k => ?_) ih
    rw [sched_Wake.l0, if_pos (by omega), if_pos (by omega), if_pos (by omega), rd_at hlt, show wrap64 ((i : Int) + 1) = ((i + 1 : Nat) : Int) by unfold wrap64; omega]
    unfold wk
    by_cases h5 : l[i].f5 = true
    · rw [if_pos h5, if_pos h5]
    · rw [if_neg h5, if_neg h5, nextV _ _ (by have := hr.1; omega), Option.bind_some]
      by_cases h2 : s.2 = true
      · rw [if_pos h2, if_pos h2]
        by_cases h1 : mx now (nxV l[i] l[i].f6) < s.1
        · rw [if_pos h1, if_pos h1]
        · rw [if_neg h1, if_neg h1]
      · rw [if_neg h2, if_neg h2]
theorem wakeR (now : Int) (h0 : 0 ≤ now) (h1 : now ≤ 1099511627776) (l : List S27) (hl : l.length ≤ 60) (hR : ∀ x ∈ l, Right x) : ∀ (d i : Nat) (s : Int × Bool), i + d = l.length → Ev (fun k => klaxonref19_Wake.l0 k now l s.1 s.2 (i : Int)) ((l.drop i).foldl (wk now) s)
  | 0, i, s, hi => by
    rw [List.drop_of_length_le (by omega), List.foldl_nil]
    refine Ev.step (fun k => ?_) (Ev.now _)
    rw [klaxonref19_Wake.l0, if_neg (by omega)]
  | d + 1, i, s, hi => by
    have hlt : i < l.length := by omega
    have hr := hR _ (List.getElem_mem hlt)
    have ih := wakeR now h0 h1 l hl hR d (i + 1) (wk now s l[i]) (by omega)
    rw [List.drop_eq_getElem_cons hlt, List.foldl_cons]
    refine Ev.step (fun k => ?_) ih
    rw [klaxonref19_Wake.l0, if_pos (by omega), if_pos (by omega), rd_at hlt, show wrap64 ((i : Int) + 1) = ((i + 1 : Nat) : Int) by unfold wrap64; omega]
    unfold wk
    by_cases h5 : l[i].f5 = true
    · rw [if_pos h5, if_pos h5]
    · rw [if_neg h5, if_neg h5, isR_tells _ _ (by have := hr.1; omega), Option.bind_some]
      by_cases hd : isR l[i] now = true
      · have e := next_due _ now hr h0 h1 hd
        rw [if_pos hd, e]
        by_cases h2 : s.2 = true
        · rw [if_pos h2, if_pos h2]
          by_cases h3 : now < s.1
          · rw [if_pos h3, if_pos h3]
          · rw [if_neg h3, if_neg h3]
        · rw [if_neg h2, if_neg h2]
      · rw [if_neg hd, nextR _ _ hr (by have := hr.2.2.2.2.1; omega) (by have := hr.2.2.2.2.2; omega), Option.bind_some]
        by_cases h2 : s.2 = true
        · rw [if_pos h2, if_pos h2]
          by_cases h3 : mx now (nxV l[i] l[i].f6) < s.1
          · rw [if_pos h3, if_pos h3]
          · rw [if_neg h3, if_neg h3]
        · rw [if_neg h2, if_neg h2]
theorem ahead_lt (x y : S27) : aheadR x y = ltOf cmpJ x y := by
  unfold aheadR ltOf cmpJ lexC
  simp only [St.toList_eq, less_cmpS]
  by_cases h0 : x.f0 = y.f0
  · rw [if_pos h0, if_pos ((cmpS_eq _ _).2 h0)]
    by_cases h1 : x.f1 = y.f1
    · rw [if_pos h1, if_pos ((cmpS_eq _ _).2 h1)]
      unfold cmpZ
      by_cases h2 : x.f2 < y.f2
      · simp [h2]
      · rw [if_neg h2, decide_eq_false h2]
        split <;> rfl
    · rw [if_neg h1, if_neg (fun e => h1 ((cmpS_eq _ _).1 e))]
  · rw [if_neg h0, if_neg (fun e => h0 ((cmpS_eq _ _).1 e))]
theorem stays_parts (x : S27) (s : List S27) (hs : Sorted (ltOf cmpJ) s) : ∀ k, k ≤ s.length → (∀ j (h : j < s.length), k ≤ j → ltOf cmpJ x s[j] = true) → (∀ j (h : j < s.length), j < stays x s k → ltOf cmpJ x s[j] = false) ∧ (∀ j (h : j < s.length), stays x s k ≤ j → ltOf cmpJ x s[j] = true)
  | 0, _, h => ⟨fun j _ hj => by simp [stays] at hj, fun j hj _ => h j hj (Nat.zero_le _)⟩
  | k + 1, hk, h => by
    have hlt : k < s.length := by omega
    have e : rd_T27 s (k : Int) = s[k] := rd_at hlt
    rw [stays, e, ahead_lt]
    by_cases ha : ltOf cmpJ x s[k] = true
    · rw [if_pos ha]
      exact stays_parts x s hs k (by omega) (fun j hj hkj => by
        by_cases hje : j = k
        · subst hje; exact ha
        · exact h j hj (by omega))
    · rw [if_neg ha]
      have ha : ltOf cmpJ x s[k] = false := by simpa using ha
      refine ⟨fun j hj hjk => ?_, fun j hj hjk => h j hj hjk⟩
      by_cases hje : j = k
      · subst hje; exact ha
      · exact cmpJ3.ord.le_trans (hs.getElem (show j < k by omega) hlt) ha
theorem ins_merge (x : S27) (s : List S27) (hs : Sorted (ltOf cmpJ) s) : insR s x = merge (ltOf cmpJ) s [x] := by
  obtain ⟨h1, h2⟩ := stays_parts x s hs s.length (Nat.le_refl _) (fun j h hj => by omega)
  have hle := stays_le x s s.length
  have := merge_one (lt := ltOf cmpJ) (s.take (stays x s s.length)) (s.drop (stays x s s.length)) x
    (fun e he => by
      obtain ⟨j, hj, rfl⟩ := List.getElem_of_mem he
      rw [List.length_take] at hj
      rw [List.getElem_take]
      exact h1 j (by omega) (by omega))
    (fun e he => by
      obtain ⟨j, hj, rfl⟩ := List.getElem_of_mem he
      rw [List.length_drop] at hj
      rw [List.getElem_drop]
      exact h2 _ (by omega) (by omega))
  rw [List.take_append_drop] at this
  rw [this]; rfl
theorem fold_ins : ∀ (l s : List S27), Sorted (ltOf cmpJ) s → l.foldl insR s = l.foldl (fun s x => merge (ltOf cmpJ) s [x]) s
  | [], s, _ => rfl
  | x :: l, s, hs => by
    rw [List.foldl_cons, List.foldl_cons, ins_merge x s hs]
    exact fold_ins l _ (merge_sorted cmpJ3.ord hs (List.pairwise_singleton _ _))
theorem due_same (now : Int) (h0 : 0 ≤ now) (h1 : now ≤ 1099511627776) (l : List S27) (hR : ∀ x ∈ l, Right x) : refD now l = dueN now l := by
  unfold refD dueN isort
  rw [fold_ins _ _ List.Pairwise.nil, List.filter_congr (fun x hx => is_same x now (hR x hx) h0 h1)]
theorem same_loop (l : List S27) (hl : l.length ≤ 1000000) : ∀ (d i : Nat), i + d = l.length → Ev (fun k => klaxonref19_Same.l0 k l l (i : Int)) true
  | 0, i, hi => Ev.step (fun k => by rw [klaxonref19_Same.l0, if_neg (by omega)]) (Ev.now _)
  | d + 1, i, hi => by
    refine Ev.step (fun k => ?_) (same_loop l hl d (i + 1) (by omega))
    rw [klaxonref19_Same.l0, if_pos (by omega), if_pos (by omega), if_pos (by omega), if_neg (by simp), show wrap64 ((i : Int) + 1) = ((i + 1 : Nat) : Int) by unfold wrap64; omega]
theorem same_self (l : List S27) (hl : l.length ≤ 1000000) : Ev (fun k => klaxonref19_Same.f k l l) true := by
  refine Ev.congr (fun k => ?_) (same_loop l hl l.length 0 (by omega))
  rw [klaxonref19_Same.f, if_pos rfl]; rfl
theorem all_right (l : List S27) (hR : ∀ x ∈ l, Right x) : l.all (fun x => x.f3 != 0) = true := by
  rw [List.all_eq_true]
  intro x hx
  have := (hR x hx).1
  simp; omega
theorem tells_end (now : Int) (h0 : 0 ≤ now) (h1 : now ≤ 1099511627776) (l : List S27) (hl : l.length ≤ 60) (hR : ∀ x ∈ l, Right x) : Ev (fun k => ((some (([] : List (S27)) : List (S27))).bind fun y171 => (if y171.length + l.length < 1954687338268 then ((sched_Wake.f k now (y171 ++ l)).bind fun bt177 => ((klaxonref19_Wake.f k now l).bind fun bt179 => ((some (([] : List (S27)) : List (S27))).bind fun y181 => (if y181.length + l.length < 1954687338268 then ((sched_DueN.f now (y181 ++ l)).bind fun t187 => ((klaxonref19_Due.f now l).bind fun t190 => ((klaxonref19_Same.f k t187 t190).bind fun t193 => (if t193 = true then (if bt177.1 = bt179.1 then (if (bt177.2 == bt179.2) = true then ((klaxonlaw19_liveN.f k).bind fun t194 => (some t194)) else (none)) else (none)) else (none))))) else (none))))) else (none)))) true := by
  have w1 := wakeV now l hl hR l.length 0 (0, false) (by omega)
  have w2 := wakeR now h0 h1 l hl hR l.length 0 (0, false) (by omega)
  rw [List.drop_zero] at w1 w2
  have d1 : sched_DueN.f now l = some (dueN now l) := by
    unfold sched_DueN.f
    rw [if_pos (by omega), if_pos (all_right l hR)]
  have d2 : klaxonref19_Due.f now l = some (dueN now l) := by
    unfold klaxonref19_Due.f
    rw [if_pos (by omega), if_pos (all_right l hR), due_same now h0 h1 l hR]
  have hdl : (dueN now l).length ≤ 1000000 := by
    unfold dueN
    rw [isort_length]
    have := List.length_filter_le (fun x => dueV x now) l
    omega
  refine Ev.congr (g := fun k => _) (f := fun k => (sched_Wake.l0 k now 0 false l (l.length : Int) 0).bind fun bt177 => (klaxonref19_Wake.l0 k now l 0 false 0).bind fun bt179 => (klaxonref19_Same.f k (dueN now l) (dueN now l)).bind fun t193 => (if t193 = true then (if bt177.1 = bt179.1 then (if (bt177.2 == bt179.2) = true then ((klaxonlaw19_liveN.f k).bind fun t194 => (some t194)) else (none)) else (none)) else (none))) (fun k => ?_) ?_
  · simp only [Option.bind_some, List.nil_append, List.length_nil, Nat.zero_add, d1, d2, if_pos (show l.length < 1954687338268 by omega)]
    rfl
  · refine Ev.bind (f := fun k bt177 => (klaxonref19_Wake.l0 k now l 0 false 0).bind fun bt179 => (klaxonref19_Same.f k (dueN now l) (dueN now l)).bind fun t193 => (if t193 = true then (if bt177.1 = bt179.1 then (if (bt177.2 == bt179.2) = true then ((klaxonlaw19_liveN.f k).bind fun t194 => (some t194)) else (none)) else (none)) else (none))) w1 ?_
    refine Ev.bind (f := fun k (bt179 : Int × Bool) => (klaxonref19_Same.f k (dueN now l) (dueN now l)).bind fun t193 => (if t193 = true then (if _ = bt179.1 then (if (_ == bt179.2) = true then ((klaxonlaw19_liveN.f k).bind fun t194 => (some t194)) else (none)) else (none)) else (none))) w2 ?_
    refine Ev.bind (f := fun k t193 => (if t193 = true then (if _ = _ then (if (_ == _) = true then ((klaxonlaw19_liveN.f k).bind fun t194 => (some t194)) else (none)) else (none)) else (none))) (same_self _ hdl) ?_
    refine Ev.congr (fun k => ?_) liveN_some
    rw [if_pos rfl, if_pos rfl, if_pos (by simp)]
theorem tells_loop (now : Int) (h0 : 0 ≤ now) (h1 : now ≤ 1099511627776) (l : List S27) (hl : l.length ≤ 60) (hR : ∀ x ∈ l, Right x) : ∀ (d i : Nat), i + d = l.length → Ev (fun k => klaxonlaw19_SchedTells.l0 k now l (i : Int)) true
  | 0, i, hi => by
    refine Ev.step (fun k => ?_) (tells_end now h0 h1 l hl hR)
    rw [klaxonlaw19_SchedTells.l0, if_neg (by omega)]
  | d + 1, i, hi => by
    have hlt : i < l.length := by omega
    have hr := hR _ (List.getElem_mem hlt)
    have h3 : l[i].f3 ≠ 0 := by have := hr.1; omega
    have h6 : -1000000 ≤ l[i].f6 ∧ l[i].f6 ≤ 4398046511104 := by have := hr.2.2.2.2; omega
    refine Ev.step (fun k => ?_) (tells_loop now h0 h1 l hl hR d (i + 1) (by omega))
    rw [klaxonlaw19_SchedTells.l0, if_pos (by omega), if_pos (by omega), rd_at hlt, slot_tells _ _ h3, Option.bind_some, slotR_tells _ _ h3, Option.bind_some, if_pos (slot_same _ now hr (by omega) (by omega)).symm,
      nextV _ _ h3, Option.bind_some, nextR _ _ hr (by omega) (by omega), Option.bind_some, if_pos rfl, slot_tells _ _ h3, Option.bind_some, slotR_tells _ _ h3, Option.bind_some, if_pos (slot_same _ _ hr h6.1 h6.2).symm, show wrap64 ((i : Int) + 1) = ((i + 1 : Nat) : Int) by unfold wrap64; omega]
theorem tells_law (now : Int) (l : List S27) : Ev (fun k => klaxonlaw19_SchedTells.f k now l) true := by
  obtain ⟨b, hb, hs⟩ := small_tells l now
  refine Ev.congr (g := fun k => _) (f := fun k => (klaxonlaw19_small.f k l now).bind fun t155 => (if t155 = true then (klaxonlaw19_SchedTells.l0 k now l 0) else ((klaxonlaw19_liveN.f k).bind fun t156 => (some t156)))) (fun k => rfl) ?_
  refine Ev.bind (f := fun k t155 => (if t155 = true then (klaxonlaw19_SchedTells.l0 k now l 0) else ((klaxonlaw19_liveN.f k).bind fun t156 => (some t156)))) hb ?_
  cases b with
  | false => exact Ev.congr (fun k => by rw [if_neg (by simp)]) liveN_some
  | true =>
    obtain ⟨hl, hR, h0, h1⟩ := hs rfl
    exact Ev.congr (fun k => by rw [if_pos rfl]; rfl) (tells_loop now h0 h1 l hl hR l.length 0 (by omega))
end Go.Proofs.Ytaonabfnagmogaa.M
