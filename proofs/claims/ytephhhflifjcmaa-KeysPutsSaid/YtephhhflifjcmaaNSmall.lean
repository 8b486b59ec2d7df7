/- Plain law: the test of small inputs ends; what it lets through is of at most twenty parts. And: what the laws make of it. -/
import Derived.Test.YtephhhflifjcmaaNSame
import Derived.Test.YtephhhflifjcmaaKx8
set_option linter.unusedVariables false
set_option linter.unusedSimpArgs false
namespace Go.Proofs.Ytephhhflifjcmaa.M
open Go.RowKit Go.Proofs.Ytephhhflifjcmaa.K Go.Proofs.YtephhhflifjcmaaW.PrintWords Go.Proofs.YtephhhflifjcmaaW.PrintLast
theorem small_loop (l : List S34) : ∀ (d i : Nat) (t : Int), i + d = 22 → ∃ b, Ev (fun k => klaxonlaw07_small.l0 k l t (i : Int)) b ∧ (b = true → l.length ≤ 20)
  | 0, i, t, hi => by
    have hd : ∃ b, (if (l.length : Int) ≤ 20 then (some (decide (t ≤ 8000))) else (some false)) = some b ∧ (b = true → l.length ≤ 20) := by
      by_cases h : (l.length : Int) ≤ 20
      · exact ⟨_, by rw [if_pos h], fun _ => by omega⟩
      · exact ⟨_, by rw [if_neg h], fun h => by cases h⟩
    obtain ⟨b, hb, hl⟩ := hd
    refine ⟨b, Ev.step (fun k => ?_) (Ev.now b), hl⟩
    rw [klaxonlaw07_small.l0, if_neg (show ¬ ((i : Int) ≤ 20) by omega), hb]
    exact ite_self _
  | d + 1, i, t, hi => by
    have hd : ∃ b, (if (l.length : Int) ≤ 20 then (some (decide (t ≤ 8000))) else (some false)) = some b ∧ (b = true → l.length ≤ 20) := by
      by_cases h : (l.length : Int) ≤ 20
      · exact ⟨_, by rw [if_pos h], fun _ => by omega⟩
      · exact ⟨_, by rw [if_neg h], fun h => by cases h⟩
    obtain ⟨b, hb, hl⟩ := hd
    by_cases hc : (i : Int) < (l.length : Int) ∧ (i : Int) ≤ 20
    · obtain ⟨c, hcE, hcl⟩ := small_loop l d (i + 1) (wrap64 (t + (((rd_T34 l (i : Int)).f2).size : Int))) (by omega)
      refine ⟨c, Ev.step (fun k => ?_) hcE, hcl⟩
      rw [klaxonlaw07_small.l0, if_pos hc.1, if_pos hc.2, if_pos (by omega)]
      congr 1
      unfold wrap64; omega
    · refine ⟨b, Ev.step (fun k => ?_) (Ev.now b), hl⟩
      rw [klaxonlaw07_small.l0]
      by_cases h1 : (i : Int) < (l.length : Int)
      · rw [if_pos h1, if_neg (fun h2 => hc ⟨h1, h2⟩), hb]
      · rw [if_neg h1, hb]
theorem small_tells (l : List S34) : ∃ b, Ev (fun k => klaxonlaw07_small.f k l) b ∧ (b = true → l.length ≤ 20) := small_loop l 22 0 0 rfl
theorem scan_wf_append {a b : List S34} (ha : Wf a) (hb : Wf b) : Wf (a ++ b) := fun p hp => (List.mem_append.1 hp).elim (ha p) (hb p)
theorem wf_int {n : Int} (h : I64 n) : Wf [⟨1, n, emp⟩] := fun p hp => by
  rw [List.mem_singleton] at hp; subst hp; exact h
theorem wf_txt (s : ByteArray) : Wf [⟨2, 0, s⟩] := fun p hp => by
  rw [List.mem_singleton] at hp; subst hp; exact ⟨by show (-9223372036854775808:Int) ≤ 0; decide, by show (0:Int) ≤ 9223372036854775807; decide⟩
theorem err_int (n : Int) : errP ⟨1, n, emp⟩ = 0 := by unfold errP; rw [if_pos ⟨rfl, rfl⟩]
theorem err_txt {s : ByteArray} (h : s.size ≤ 256) : errP ⟨2, 0, s⟩ = 0 := by
  unfold errP
  rw [if_neg (fun h => absurd h.1 (by show ¬ ((2:Int) = 1); decide)), if_pos ⟨rfl, rfl⟩, if_neg (by show ¬ s.size > 256; omega)]
theorem putE_end (head : List S34) (p : S34) (hl : head.length ≤ 7) (hp : errP p = 0) : putE (head ++ [p]) = scan head := by
  unfold putE
  rw [if_neg (by rw [List.length_append, List.length_singleton]; omega), scan_append]
  by_cases h : scan head = 0
  · rw [if_pos h, scan, if_pos hp, scan, h]
  · rw [if_neg h]
theorem cmpL_same : ∀ (h x y : List S34), cmpL (h ++ x) (h ++ y) = cmpL x y
  | [], _, _ => rfl
  | p :: h, x, y => by rw [List.cons_append, List.cons_append, cmpL, cmpP_self, if_neg (by simp), cmpL_same h x y]
/-- One string ahead of another: by the lists whose keys they are. -/
theorem less_put {a b : List S34} (ha : Wf a) (hb : Wf b) (ea : putE a = 0) (eb : putE b = 0) : Op.bytesLess (putS a).toList (putS b).toList = decide (cmpL a b = -1) := by
  rw [bytesLess_bytes, bytes_put ha ea, bytes_put hb eb, order_tells (ok_of ha ea).1 (ok_of hb eb).1]
theorem same_put {a b : List S34} (ha : Wf a) (hb : Wf b) (ea : putE a = 0) (eb : putE b = 0) : ((putS a).toList == (putS b).toList) = decide (cmpL a b = 0) := by
  have h : ((putS a).toList = (putS b).toList) ↔ cmpL a b = 0 := by
    rw [toList_eq, ← order_tells (ok_of ha ea).1 (ok_of hb eb).1]
    constructor
    · intro h
      rw [← bytes_put ha ea, ← bytes_put hb eb, h]
      exact lcmp_self _
    · intro h
      exact text_ext (by rw [bytes_put ha ea, bytes_put hb eb]; exact lcmp_zero _ _ h)
  by_cases hc : cmpL a b = 0
  · rw [decide_eq_true hc]; exact beq_iff_eq.2 (h.2 hc)
  · rw [decide_eq_false hc]; exact beq_eq_false_iff_ne.2 (fun e => hc (h.1 e))
end Go.Proofs.Ytephhhflifjcmaa.M
