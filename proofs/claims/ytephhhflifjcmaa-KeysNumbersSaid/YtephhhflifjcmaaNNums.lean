/- Plain law of KeysNumbers: behind any head, numbers' keys lie as the numbers do, and ahead of every text's. -/
import Derived.Test.YtephhhflifjcmaaNSmall
import Derived.Test.YtephhhflifjcmaaKx9
set_option linter.unusedVariables false
set_option linter.unusedSimpArgs false
namespace Go.Proofs.Ytephhhflifjcmaa.M
open Go.RowKit Go.Proofs.Ytephhhflifjcmaa.K Go.Proofs.YtephhhflifjcmaaW.PrintWords Go.Proofs.YtephhhflifjcmaaW.PrintLast
theorem nums_ends (head : List S34) (a b : Int) (s : ByteArray) (hw : Wf head) (ha : I64 a) (hb : I64 b) (hs : s.size ≤ 256) (hl : head.length ≤ 4) (he : scan head = 0) :
    (decide (a < b) == Op.bytesLess (putS (head ++ [⟨1, a, emp⟩])).toList (putS (head ++ [⟨1, b, emp⟩])).toList) = true ∧
    ((a == b) == ((putS (head ++ [⟨1, a, emp⟩])).toList == (putS (head ++ [⟨1, b, emp⟩])).toList)) = true ∧
    Op.bytesLess (putS (head ++ [⟨1, a, emp⟩])).toList (putS (head ++ [⟨2, 0, s⟩])).toList = true ∧
    Op.bytesLess (putS (head ++ [⟨1, b, emp⟩])).toList (putS (head ++ [⟨2, 0, s⟩])).toList = true := by
  have wa := scan_wf_append hw (wf_int ha)
  have wb := scan_wf_append hw (wf_int hb)
  have ws := scan_wf_append hw (wf_txt s)
  have ea : putE (head ++ [⟨1, a, emp⟩]) = 0 := by rw [putE_end _ _ (by omega) (err_int a), he]
  have eb : putE (head ++ [⟨1, b, emp⟩]) = 0 := by rw [putE_end _ _ (by omega) (err_int b), he]
  have es : putE (head ++ [⟨2, 0, s⟩]) = 0 := by rw [putE_end _ _ (by omega) (err_txt hs), he]
  have hc : cmpL [⟨1, a, emp⟩] [(⟨1, b, emp⟩ : S34)] = cmpI a b := by
    have h0 : cmpP ⟨1, a, emp⟩ ⟨1, b, emp⟩ = cmpI a b := by
      unfold cmpP
      rw [cmpI_self, if_neg (by simp)]
      by_cases h : cmpI a b = 0
      · rw [if_neg (by simp [h]), h]; exact lcmp_self [] ▸ (compareBytes_bytes emp emp)
      · rw [if_pos h]
    rw [cmpL, h0]
    by_cases h : cmpI a b = 0
    · rw [if_neg (by simp [h]), h]; rfl
    · rw [if_pos h]
  have hx : ∀ n : Int, cmpL [⟨1, n, emp⟩] [(⟨2, 0, s⟩ : S34)] = -1 := fun n => rfl
  refine ⟨?_, ?_, ?_, ?_⟩
  · rw [less_put wa wb ea eb, cmpL_same, hc, beq_iff_eq]
    congr 1
    unfold cmpI
    apply propext
    constructor
    · intro h; rw [if_pos h]
    · intro h
      split at h
      · assumption
      · split at h <;> omega
  · rw [same_put wa wb ea eb, cmpL_same, hc]
    by_cases h : a = b
    · subst h; rw [cmpI_self]; simp
    · rw [decide_eq_false (fun e => h (cmpI_zero e)), beq_eq_false_iff_ne.2 h]; rfl
  · rw [less_put wa ws ea es, cmpL_same, hx]; rfl
  · rw [less_put wb ws eb es, cmpL_same, hx]; rfl
theorem nums_end (head : List S34) (a b : Int) (s : ByteArray) (hw : Wf head) (ha : I64 a) (hb : I64 b) (hs : s.size ≤ 256) (hl : head.length ≤ 4) :
    Ev (fun k => klaxonlaw07_KeysNumbers.j0 k a b head s false) true := by
  have wa := scan_wf_append hw (wf_int ha)
  have wb := scan_wf_append hw (wf_int hb)
  have ws := scan_wf_append hw (wf_txt s)
  have ea : putE (head ++ [⟨1, a, emp⟩]) = scan head := putE_end _ _ (by omega) (err_int a)
  have eb : putE (head ++ [⟨1, b, emp⟩]) = scan head := putE_end _ _ (by omega) (err_int b)
  have es : putE (head ++ [⟨2, 0, s⟩]) = scan head := putE_end _ _ (by omega) (err_txt hs)
  have step : ∀ k, klaxonlaw07_KeysNumbers.j0 (k + 1) a b head s false = ((keys_Put.f k (head ++ [⟨1, a, emp⟩])).bind fun bt202 => ((keys_Put.f k (head ++ [⟨1, b, emp⟩])).bind fun bt216 => ((keys_Put.f k (head ++ [⟨2, 0, s⟩])).bind fun bt230 => (if bt202.2 = 0 then (if (wrap64 (bt216.2 + bt230.2)) = 0 then (if ((decide (a < b)) == (Op.bytesLess bt202.1.toList bt216.1.toList)) = true then (if ((a == b) == (bt202.1.toList == bt216.1.toList)) = true then (if (Op.bytesLess bt202.1.toList bt230.1.toList) = true then (if (Op.bytesLess bt216.1.toList bt230.1.toList) = true then ((klaxonlaw07_live.f k).bind fun t235 => (some t235)) else (some false)) else (some false)) else (some false)) else (some false)) else (some false)) else (if bt216.2 = bt202.2 then (if bt230.2 = bt202.2 then ((klaxonlaw07_live.f k).bind fun t240 => (some t240)) else (some false)) else (some false)))))) := by
    intro k
    have hlt : head.length < 4398046511104 := by omega
    simp only [klaxonlaw07_KeysNumbers.j0, keys_Int.f, keys_Text.f, klaxonlaw07_num.f, Option.bind_some, List.nil_append, List.length_nil, Nat.zero_add, hlt, if_true]
    rfl
  refine Ev.step step ?_
  refine Ev.bind (put_tells _ wa) (Ev.bind (put_tells _ wb) (Ev.bind (put_tells _ ws) ?_))
  show Ev (fun k => if putE (head ++ [⟨1, a, emp⟩]) = 0 then _ else _) true
  rw [ea, eb, es]
  by_cases he : scan head = 0
  · obtain ⟨h1, h2, h3, h4⟩ := nums_ends head a b s hw ha hb hs hl he
    refine Ev.congr (fun k => ?_) live_some
    simp only [he]
    rw [if_pos trivial, if_pos (show wrap64 (0 + 0) = 0 by unfold wrap64; omega), if_pos h1, if_pos h2, if_pos h3, if_pos h4]
  · refine Ev.congr (fun k => ?_) live_some
    rw [if_neg he, if_pos rfl, if_pos rfl]
theorem nums_law (a b : Int) (head : List S34) (s : ByteArray) (hw : Wf head) (ha : I64 a) (hb : I64 b) : Ev (fun k => klaxonlaw07_KeysNumbers.f k a b head s) true := by
  have ht : Ev (fun k => klaxonlaw07_KeysNumbers.j0 k a b head s true) true := by
    refine Ev.step (fun k => ?_) live_some
    simp only [klaxonlaw07_KeysNumbers.j0, if_true]
  obtain ⟨c, hc, hl⟩ := small_tells head
  refine Ev.bind (f := fun k t188 => (if t188 = true then (if (s.size : Int) > 256 then (klaxonlaw07_KeysNumbers.j0 k a b head s true) else (klaxonlaw07_KeysNumbers.j0 k a b head s (decide ((head.length : Int) > 4)))) else (klaxonlaw07_KeysNumbers.j0 k a b head s true))) hc ?_
  cases c with
  | false => exact Ev.congr (fun k => by rw [if_neg (by simp)]) ht
  | true =>
    by_cases hs : (s.size : Int) > 256
    · exact Ev.congr (fun k => by rw [if_pos rfl, if_pos hs]) ht
    · by_cases h4 : (head.length : Int) > 4
      · exact Ev.congr (fun k => by rw [if_pos rfl, if_neg hs, decide_eq_true h4]) ht
      · exact Ev.congr (fun k => by rw [if_pos rfl, if_neg hs, decide_eq_false h4]) (nums_end head a b s hw ha hb (by omega) (by omega))
end Go.Proofs.Ytephhhflifjcmaa.M
