/- Plain law: Same tells whether two lists are one; Begins, whether a list begins with another one. -/
import Derived.Test.YtephhhflifjcmaaNOrd
set_option linter.unusedVariables false
set_option linter.unusedSimpArgs false
namespace Go.Proofs.Ytephhhflifjcmaa.M
open Go.RowKit Go.Proofs.Ytephhhflifjcmaa.K Go.Proofs.YtephhhflifjcmaaW.PrintWords Go.Proofs.YtephhhflifjcmaaW.PrintLast
theorem part_ne (p q : S34) : ((!(p.f0 == q.f0) || (!(p.f1 == q.f1) || (!(p.f2.toList == q.f2.toList)))) = true) ↔ p ≠ q := by
  have h : p = q ↔ p.f0 = q.f0 ∧ p.f1 = q.f1 ∧ p.f2.toList = q.f2.toList := by
    constructor
    · rintro rfl; exact ⟨rfl, rfl, rfl⟩
    · rintro ⟨h0, h1, h2⟩
      have h3 := (toList_eq _ _).1 h2
      cases p; cases q
      simp only at h0 h1 h3
      rw [h0, h1, h3]
  rw [Ne, h]
  by_cases h0 : p.f0 = q.f0 <;> by_cases h1 : p.f1 = q.f1 <;> by_cases h2 : p.f2.toList = q.f2.toList <;> simp [h0, h1, h2]
theorem same_loop (a b : List S34) (hl : a.length = b.length) (hm : a.length ≤ 4611686018427387904) : ∀ (d i : Nat), i + d = a.length →
    (a.drop i = b.drop i → Ev (fun k => klaxonref07_Same.l0 k a b (i : Int)) true) ∧ (a.drop i ≠ b.drop i → Ev (fun k => klaxonref07_Same.l0 k a b (i : Int)) false)
  | 0, i, h => by
    have e : a.drop i = b.drop i := by rw [List.drop_of_length_le (by omega), List.drop_of_length_le (by omega)]
    refine ⟨fun _ => ⟨1, fun k hk => ?_⟩, fun h => absurd e h⟩
    obtain ⟨k, rfl⟩ : ∃ n, k = n + 1 := ⟨k - 1, by omega⟩
    simp only [klaxonref07_Same.l0]
    rw [if_neg (by omega)]
  | d + 1, i, h => by
    have hi : i < a.length := by omega
    have hi' : i < b.length := by omega
    have ha : a.drop i = a[i] :: a.drop (i + 1) := List.drop_eq_getElem_cons hi
    have hb : b.drop i = b[i] :: b.drop (i + 1) := List.drop_eq_getElem_cons hi'
    have e4 : wrap64 ((i : Int) + 1) = ((i + 1 : Nat) : Int) := by rw [w64 ⟨by omega, by omega⟩]; omega
    obtain ⟨h1, h2⟩ := same_loop a b hl hm d (i + 1) (by omega)
    rw [ha, hb]
    have ra := rd_at hi
    have rb := rd_at hi'
    by_cases he : a[i] = b[i]
    · have step : ∀ k, klaxonref07_Same.l0 (k + 1) a b (i : Int) = klaxonref07_Same.l0 k a b ((i + 1 : Nat) : Int) := fun k => by
        simp only [klaxonref07_Same.l0]
        rw [if_pos (by omega), if_pos (by omega), if_pos (by omega), ra, rb, if_neg (fun h => (part_ne _ _).1 h he), e4]
      refine ⟨fun h => Ev.step step (h1 (by injection h)), fun h => Ev.step step (h2 (fun h' => h (by rw [he, h'])))⟩
    · refine ⟨fun h => absurd (by injection h) he, fun _ => ⟨1, fun k hk => ?_⟩⟩
      obtain ⟨k, rfl⟩ : ∃ n, k = n + 1 := ⟨k - 1, by omega⟩
      simp only [klaxonref07_Same.l0]
      rw [if_pos (by omega), if_pos (by omega), if_pos (by omega), ra, rb, if_pos ((part_ne _ _).2 he)]
theorem same_yes (a : List S34) (hm : a.length ≤ 4611686018427387904) : Ev (fun k => klaxonref07_Same.f k a a) true := by
  refine Ev.congr (fun k => ?_) ((same_loop a a rfl hm a.length 0 (by omega)).1 rfl)
  simp only [klaxonref07_Same.f, if_true]
  rfl
theorem same_no {a b : List S34} (h : a ≠ b) (hm : a.length ≤ 4611686018427387904) : Ev (fun k => klaxonref07_Same.f k a b) false := by
  by_cases hl : a.length = b.length
  · refine Ev.congr (fun k => ?_) ((same_loop a b hl hm a.length 0 (by omega)).2 (by simpa using h))
    simp only [klaxonref07_Same.f]
    rw [if_pos (by omega)]
    rfl
  · refine ⟨0, fun k _ => ?_⟩
    simp only [klaxonref07_Same.f]
    rw [if_neg (by omega)]
theorem begins_yes {a w : List S34} (h : w <+: a) (hm : w.length ≤ 4611686018427387904) : Ev (fun k => klaxonref07_Begins.f k a w) true := by
  have hl := h.length_le
  have he := List.prefix_iff_eq_take.1 h
  refine Ev.congr (fun k => ?_) (same_yes w hm)
  simp only [klaxonref07_Begins.f]
  rw [if_pos hl, ← he]
theorem begins_no {a w : List S34} (h : ¬ w <+: a) (hm : w.length ≤ 4611686018427387904) : Ev (fun k => klaxonref07_Begins.f k a w) false := by
  by_cases hl : w.length ≤ a.length
  · refine Ev.congr (fun k => ?_) (same_no (a := a.take w.length) (b := w) (fun e => h (List.prefix_iff_eq_take.2 e.symm)) (by rw [List.length_take]; omega))
    simp only [klaxonref07_Begins.f]
    rw [if_pos hl]
  · refine ⟨0, fun k _ => ?_⟩
    simp only [klaxonref07_Begins.f]
    rw [if_neg hl]
theorem live_some : Ev (fun k => (klaxonlaw07_live.f k).bind fun t => some t) true := Ev.bind live_tells (Ev.now true)
theorem ok_of {l : List S34} (hw : Wf l) (he : putE l = 0) : Ok l ∧ putS l = strOfNums (encL l) ∧ l.length ≤ 8 := by
  have hs : putS l = strOfNums (encL l) := by unfold putS; rw [if_pos he]
  unfold putE at he
  split at he
  · omega
  · exact ⟨⟨he, hw⟩, hs, by omega⟩
theorem bytes_put {l : List S34} (hw : Wf l) (he : putE l = 0) : bytesOf (putS l) = encL l := by rw [(ok_of hw he).2.1, bytesOf_nums (encL_bytes hw)]
end Go.Proofs.Ytephhhflifjcmaa.M
