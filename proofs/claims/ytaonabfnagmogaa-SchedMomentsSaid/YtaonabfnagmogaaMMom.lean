/- Plain law of SchedMoments: whoever's Last is each time at which it was due is due just at its moments. -/
import Derived.Test.YtaonabfnagmogaaMSlot
import Derived.Test.YtaonabfnagmogaaSx7
set_option linter.unusedVariables false
set_option linter.unusedSimpArgs false
namespace Go.Proofs.Ytaonabfnagmogaa.M
open Go.RowKit Go.Proofs.Ytaonabfnagmogaa.S Go.Proofs.YtaonabfnagmogaaW.PrintWords Go.Proofs.YtaonabfnagmogaaW.PrintLast
theorem live_at : klaxonlaw19_live.f 40 = some true := by decide +kernel
theorem live_tells : Ev (fun k => klaxonlaw19_live.f k) true := Ev.of klaxonlaw19_live.mono live_at
theorem live_some : Ev (fun k => (klaxonlaw19_live.f k).bind fun t => some t) true := Ev.bind live_tells (Ev.now true)
theorem due_one (now : Int) (x : S27) (h : x.f3 ≠ 0) : sched_Due.f now [x] = some (if dueV x now = true then [x] else []) := by
  have ha : ([x].all (fun x => x.f3 != 0)) = true := by simp [h]
  unfold sched_Due.f
  rw [if_pos (by simp), if_pos ha]
  by_cases hd : dueV x now = true
  · rw [if_pos hd, List.filter_cons_of_pos (by exact hd)]; rfl
  · rw [if_neg hd, List.filter_cons_of_neg (by exact hd)]; rfl
/-- Whether a job is due, in its slots. -/
theorem due_sl (f0 f1 : ByteArray) (f2 I O la now : Int) (hI : 1 ≤ I) (hI2 : I ≤ 1000) (hO : 0 ≤ O) (hO2 : O < I) (hl : 0 ≤ la) (hln : la ≤ now) (hn : now ≤ 4398046511104) :
    dueV ⟨f0, f1, f2, I, O, false, la⟩ now = decide (sl I O la < sl I O now) := by
  unfold dueV
  rw [if_neg (by simp), slotV_sl _ _ (by show 0 < I; omega) hO (by show O ≤ 86400; omega) (by show -1000000 ≤ la; omega) (by show la ≤ _; omega), slotV_sl _ _ (by show 0 < I; omega) hO (by show O ≤ 86400; omega) (by omega) hn]
theorem back_loop (k0 : List Int) (now i : Int) (f0 f1 : ByteArray) (f2 I O la : Int) (hI : 1 ≤ I) (hI2 : I ≤ 1000) (hO : 0 ≤ O) (hO2 : O < I) (hl : 0 ≤ la) (hln : la ≤ now) (hn : now ≤ 4398046511104) (b : Int) (hb : b = max la (now - I - 1)) (r : Bool) :
    ∀ (d : Nat) (acc : Bool), b + d ≤ now → Ev (fun k => klaxonlaw19_SchedMoments.j4 k k0 now i (acc || mom I O b d) f0 f1 f2 I O false la) r →
      Ev (fun k => klaxonlaw19_SchedMoments.l1 k k0 now i acc (b + d) f0 f1 f2 I O false la) r
  | 0, acc, hd, h => by
    rw [mom, Bool.or_false] at h
    refine Ev.step (fun k => ?_) h
    have e : wrap64 (now - I) = now - I := by unfold wrap64; omega
    rw [klaxonlaw19_SchedMoments.l1, e]
    by_cases h1 : b + ((0 : Nat) : Int) > la
    · rw [if_pos h1, if_neg (by omega)]
    · rw [if_neg h1]
  | d + 1, acc, hd, h => by
    have e : wrap64 (now - I) = now - I := by unfold wrap64; omega
    have e1 : wrap64 (b + ((d + 1 : Nat) : Int) - 1) = b + (d : Int) := by unfold wrap64; omega
    have e2 : wrap64 (b + ((d + 1 : Nat) : Int) - O) = b + ((d + 1 : Nat) : Int) - O := by unfold wrap64; omega
    have gt1 : b + ((d + 1 : Nat) : Int) > la := by omega
    have gt2 : b + ((d + 1 : Nat) : Int) ≥ now - I := by omega
    cases acc with
    | true =>
      rw [Bool.true_or] at h
      refine Ev.step (fun k => ?_) (back_loop k0 now i f0 f1 f2 I O la hI hI2 hO hO2 hl hln hn b hb r d true (by omega) (by rw [Bool.true_or]; exact h))
      rw [klaxonlaw19_SchedMoments.l1, e, if_pos gt1, if_pos gt2, if_pos rfl, e1]
    | false =>
      rw [Bool.false_or, mom] at h
      have ih := back_loop k0 now i f0 f1 f2 I O la hI hI2 hO hO2 hl hln hn b hb r d (decide (O ≤ b + ((d + 1 : Nat) : Int) ∧ (b + ((d + 1 : Nat) : Int) - O) % I = 0)) (by omega) h
      refine Ev.step (fun k => ?_) ih
      rw [klaxonlaw19_SchedMoments.l1, e, if_pos gt1, if_pos gt2, if_neg (by simp), e1, e2]
      by_cases ho : b + ((d + 1 : Nat) : Int) ≥ O
      · rw [if_pos ho, if_neg (by omega), Int.tmod_eq_emod_of_nonneg (by omega)]
        congr 1
        by_cases hm : (b + ((d + 1 : Nat) : Int) - O) % I = 0
        · rw [decide_eq_true ⟨ho, hm⟩, hm]; rfl
        · rw [decide_eq_false (fun h => hm h.2)]
          exact beq_eq_false_iff_ne.2 hm
      · rw [if_neg ho, decide_eq_false (fun h => ho h.1)]
theorem mom_due (I O la now : Int) (hI : 1 ≤ I) (hO : 0 ≤ O) (hO2 : O < I) (hl : 0 ≤ la) (hln : la ≤ now) :
    mom I O (max la (now - I - 1)) (now - max la (now - I - 1)).toNat = decide (sl I O la < sl I O now) := by
  rw [mom_slot I O _ (by omega), show max la (now - I - 1) + ((now - max la (now - I - 1)).toNat : Int) = now by omega]
  by_cases h : now - I - 1 ≤ la
  · rw [Int.max_eq_left h]
  · rw [Int.max_eq_right (by omega)]
    have h1 := sl_more I O now (by omega) (by omega)
    have h2 := sl_le I O (now - I - 1) (now - I) (by omega) (by omega)
    have h3 := sl_le I O la (now - I - 1) (by omega) (by omega)
    rw [decide_eq_true (by omega), decide_eq_true (by omega)]
theorem gaps_loop (gaps : List Int) (hg : gaps.length ≤ 60) (f0 f1 : ByteArray) (f2 I O : Int) (hI : 1 ≤ I) (hI2 : I ≤ 1000) (hO : 0 ≤ O) (hO2 : O < I) :
    ∀ (d i : Nat) (now la : Int), i + d = gaps.length → 0 ≤ la → la ≤ now → now ≤ 549755813888 + 100000 * i → Ev (fun k => klaxonlaw19_SchedMoments.l0 k gaps now (i : Int) f0 f1 f2 I O false la) true
  | 0, i, now, la, hi, hl, hln, hn => by
    refine Ev.step (fun k => ?_) live_some
    rw [klaxonlaw19_SchedMoments.l0, if_neg (by omega)]
  | d + 1, i, now, la, hi, hl, hln, hn => by
    have hlt : i < gaps.length := by omega
    have hrd : rd gaps (i : Int) = gaps[i] := by simp [rd, List.getD_eq_getElem?_getD, List.getElem?_eq_getElem hlt]
    have ht : Ev (fun k => klaxonlaw19_SchedMoments.j2 k gaps now (i : Int) true f0 f1 f2 I O false la) true := by
      refine Ev.step (fun k => ?_) live_some
      rw [klaxonlaw19_SchedMoments.j2, if_pos rfl]
    have e1 : wrap64 ((i : Int) + 1) = ((i + 1 : Nat) : Int) := by unfold wrap64; omega
    by_cases h0 : gaps[i] < 0
    · refine Ev.step (fun k => ?_) ht
      rw [klaxonlaw19_SchedMoments.l0, if_pos (by omega), if_pos (by omega), hrd, if_pos h0]
    · by_cases h1 : gaps[i] > 100000
      · refine Ev.step (fun k => ?_) ht
        rw [klaxonlaw19_SchedMoments.l0, if_pos (by omega), if_pos (by omega), hrd, if_neg h0, decide_eq_true h1]
      · have ew : wrap64 (now + gaps[i]) = now + gaps[i] := by unfold wrap64; omega
        generalize hN : now + gaps[i] = nw at ew
        have hnw : nw ≤ 549755813888 + 100000 * ((i + 1 : Nat) : Int) := by omega
        refine Ev.step (f := fun k => klaxonlaw19_SchedMoments.j2 k gaps now (i : Int) false f0 f1 f2 I O false la) (fun k => ?_) (Ev.step (f := fun k => klaxonlaw19_SchedMoments.l1 k gaps nw (i : Int) false nw f0 f1 f2 I O false la) (fun k => ?_) ?_)
        · rw [klaxonlaw19_SchedMoments.l0, if_pos (by omega), if_pos (by omega), hrd, if_neg h0, decide_eq_false h1]
        · rw [klaxonlaw19_SchedMoments.j2, if_neg (by simp), if_pos (by omega), if_pos (by omega), hrd, hN, ew]
        · have hdue := due_sl f0 f1 f2 I O la nw hI hI2 hO hO2 hl (by omega) (by omega)
          have hmom := mom_due I O la nw hI hO hO2 hl (by omega)
          have ih1 := gaps_loop gaps hg f0 f1 f2 I O hI hI2 hO hO2 d (i + 1) nw la (by omega) hl (by omega) hnw
          have ih2 := gaps_loop gaps hg f0 f1 f2 I O hI hI2 hO hO2 d (i + 1) nw nw (by omega) (by omega) (by omega) hnw
          have hb := back_loop gaps nw (i : Int) f0 f1 f2 I O la hI hI2 hO hO2 hl (by omega) (by omega) (max la (nw - I - 1)) rfl true (nw - max la (nw - I - 1)).toNat false (by omega)
          rw [show max la (nw - I - 1) + ((nw - max la (nw - I - 1)).toNat : Int) = nw by omega] at hb
          refine hb ?_
          rw [Bool.false_or, hmom, ← hdue]
          have hd1 := due_one nw (⟨f0, f1, f2, I, O, false, la⟩ : S27) (by show I ≠ 0; omega)
          have hd2 := due_one nw (⟨f0, f1, f2, I, O, false, nw⟩ : S27) (by show I ≠ 0; omega)
          have hdn := due_sl f0 f1 f2 I O nw nw hI hI2 hO hO2 (by omega) (by omega) (by omega)
          rw [decide_eq_false (by omega)] at hdn
          rw [if_neg (by rw [hdn]; simp)] at hd2
          cases hc : dueV (⟨f0, f1, f2, I, O, false, la⟩ : S27) nw with
          | true =>
            rw [hc, if_pos rfl] at hd1
            refine Ev.step (f := fun k => klaxonlaw19_SchedMoments.j5 k gaps nw (i : Int) [⟨f0, f1, f2, I, O, false, la⟩] false f0 f1 f2 I O false la) (fun k => ?_) (Ev.step (fun k => ?_) ih2)
            · rw [klaxonlaw19_SchedMoments.j4, hd1]; rfl
            · rw [klaxonlaw19_SchedMoments.j5, if_neg (by simp), hd2, Option.bind_some, e1]
              rfl
          | false =>
            rw [hc, if_neg (by simp)] at hd1
            refine Ev.step (f := fun k => klaxonlaw19_SchedMoments.j5 k gaps nw (i : Int) [] false f0 f1 f2 I O false la) (fun k => ?_) (Ev.step (fun k => ?_) ih1)
            · rw [klaxonlaw19_SchedMoments.j4, hd1]; rfl
            · rw [klaxonlaw19_SchedMoments.j5, if_neg (by simp), if_neg (by simp), e1]
theorem moments_law (f0 f1 : ByteArray) (f2 I O : Int) (p : Bool) (la : Int) (from_ : Int) (gaps : List Int) : Ev (fun k => klaxonlaw19_SchedMoments.f k f0 f1 f2 I O p la from_ gaps) true := by
  have ht : Ev (fun k => klaxonlaw19_SchedMoments.j0 k from_ gaps true f0 f1 f2 I O p la) true := by
    refine Ev.step (fun k => ?_) live_some
    rw [klaxonlaw19_SchedMoments.j0, if_pos rfl]
  obtain ⟨c, hc, hl⟩ := small_tells [(⟨f0, f1, f2, I, O, p, la⟩ : S27)] from_
  refine Ev.bind (f := fun k t247 => (if t247 = true then (if (gaps.length : Int) > 60 then (klaxonlaw19_SchedMoments.j0 k from_ gaps true f0 f1 f2 I O p la) else (if from_ > 549755813888 then (klaxonlaw19_SchedMoments.j0 k from_ gaps true f0 f1 f2 I O p la) else (klaxonlaw19_SchedMoments.j0 k from_ gaps (decide (I > 1000)) f0 f1 f2 I O p la))) else (klaxonlaw19_SchedMoments.j0 k from_ gaps true f0 f1 f2 I O p la))) hc ?_
  cases c with
  | false => exact Ev.congr (fun k => by rw [if_neg (by simp)]) ht
  | true =>
    obtain ⟨_, hR, hf0, _⟩ := hl rfl
    obtain ⟨r1, r2, r3, r4, r5, r6⟩ := hR _ List.mem_cons_self
    by_cases h1 : (gaps.length : Int) > 60
    · exact Ev.congr (fun k => by rw [if_pos rfl, if_pos h1]) ht
    · by_cases h2 : from_ > 549755813888
      · exact Ev.congr (fun k => by rw [if_pos rfl, if_neg h1, if_pos h2]) ht
      · by_cases h3 : I > 1000
        · exact Ev.congr (fun k => by rw [if_pos rfl, if_neg h1, if_neg h2, decide_eq_true h3]) ht
        · refine Ev.congr (fun k => by rw [if_pos rfl, if_neg h1, if_neg h2, decide_eq_false h3]) (Ev.step (fun k => ?_) (gaps_loop gaps (by omega) f0 f1 f2 I O r1 (by omega) r3 r4 gaps.length 0 from_ from_ (by omega) hf0 (Int.le_refl _) (by omega)))
          rw [klaxonlaw19_SchedMoments.j0, if_neg (by simp)]
          rfl
end Go.Proofs.Ytaonabfnagmogaa.M
