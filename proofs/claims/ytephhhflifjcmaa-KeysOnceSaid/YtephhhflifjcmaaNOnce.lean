/- Plain law of KeysOnce: every text that is a key is the key of its parts; cut off it is another one's, of fewer parts, or none. -/
import Derived.Test.YtephhhflifjcmaaNSame
import Derived.Test.YtephhhflifjcmaaKx8
set_option linter.unusedVariables false
set_option linter.unusedSimpArgs false
namespace Go.Proofs.Ytephhhflifjcmaa.M
open Go.RowKit Go.Proofs.Ytephhhflifjcmaa.K Go.Proofs.YtephhhflifjcmaaW.PrintWords Go.Proofs.YtephhhflifjcmaaW.PrintLast
theorem once_cut (a0 : ByteArray) (a1 : Int) (l : List S34) (hw : Wf l) (he : putE l = 0) (hs : putS l = a0) (hz : a0.size ≤ 8000) (h0 : 0 ≤ a1) (h1 : a1 < a0.size) :
    Ev (fun k => klaxonlaw07_KeysOnce.j1 k a0 a1 l false) true := by
  have hsz : (a0.extract 0 a1.toNat).size ≤ 8000 := by simp; omega
  refine Ev.step (f := fun k => (keys_Get.f k (a0.extract 0 a1.toNat)).bind fun bt179 => ((klaxonlaw07_num.f bt179.2).bind fun t183 => (if t183 = 0 then (if (bt179.1.length : Int) < (l.length : Int) then ((klaxonref07_Begins.f k l bt179.1).bind fun t184 => (if t184 = true then ((klaxonlaw07_live.f k).bind fun t185 => (some t185)) else (some false))) else (some false)) else ((klaxonlaw07_live.f k).bind fun t186 => (some t186))))) (fun k => ?_) ?_
  · simp only [klaxonlaw07_KeysOnce.j1]
    rw [if_neg (by simp), if_pos h0, if_pos (by omega)]
  · refine Ev.bind (get_tells _ (by omega)) ?_
    rcases getS_cases (a0.extract 0 a1.toNat) with ⟨m, hg, hmw, hme, hms⟩ | ⟨hg, _⟩
    · have hb : encL m = (encL l).take a1.toNat := by
        rw [← bytes_put hmw hme, ← bytes_put hw he, hms, hs]
        unfold bytesOf
        rw [Lib.extract_data, List.drop_zero, Nat.sub_zero, List.map_take]
      have hlen : (encL l).length = a0.size := by rw [← bytes_put hw he, bytesOf_length, hs]
      obtain ⟨om, _, m8⟩ := ok_of hmw hme
      obtain ⟨ol, _, l8⟩ := ok_of hw he
      have hp : m <+: l := prefix_of_enc (z := (encL l).drop a1.toNat) om ol (by rw [hb, List.take_append_drop])
      have hlt : m.length < l.length := by
        rcases Nat.lt_or_ge m.length l.length with h | h
        · exact h
        · exfalso
          have e := hp.eq_of_length_le h
          rw [e] at hb
          have := congrArg List.length hb
          rw [List.length_take, hlen] at this
          omega
      refine Ev.congr (fun k => ?_) (Ev.bind (f := fun k t => if t = true then ((klaxonlaw07_live.f k).bind fun t185 => (some t185)) else (some false)) (begins_yes hp (by omega)) (Ev.congr (fun k => by rw [if_pos rfl]) live_some))
      rw [hg]
      simp only [klaxonlaw07_num.f, Option.bind_some, if_true]
      rw [if_pos (by omega)]
    · refine Ev.congr (fun k => ?_) live_some
      rw [hg]
      simp only [klaxonlaw07_num.f, Option.bind_some]
      rw [if_neg (by omega)]
theorem once_end (a0 : ByteArray) (a1 : Int) (l : List S34) (hw : Wf l) (he : putE l = 0) (hs : putS l = a0) (hz : a0.size ≤ 8000) : Ev (fun k => klaxonlaw07_KeysOnce.j0 k a0 a1 l false) true := by
  have ht : Ev (fun k => klaxonlaw07_KeysOnce.j1 k a0 a1 l true) true := by
    refine Ev.step (fun k => ?_) live_some
    simp only [klaxonlaw07_KeysOnce.j1, if_true]
  by_cases h0 : a1 < 0
  · refine Ev.step (fun k => ?_) ht
    simp only [klaxonlaw07_KeysOnce.j0]
    rw [if_neg (by simp), if_pos h0]
  · by_cases h1 : a1 ≥ (a0.size : Int)
    · refine Ev.step (fun k => ?_) ht
      simp only [klaxonlaw07_KeysOnce.j0]
      rw [if_neg (by simp), if_neg h0, decide_eq_true h1]
    · refine Ev.step (fun k => ?_) (once_cut a0 a1 l hw he hs hz (by omega) (by omega))
      simp only [klaxonlaw07_KeysOnce.j0]
      rw [if_neg (by simp), if_neg h0, decide_eq_false h1]
theorem once_law (a0 : ByteArray) (a1 : Int) : Ev (fun k => klaxonlaw07_KeysOnce.f k a0 a1) true := by
  by_cases hz : (a0.size : Int) > 8000
  · refine Ev.congr (fun k => ?_) live_some
    simp only [klaxonlaw07_KeysOnce.f]
    rw [if_pos hz]
  · refine Ev.congr (fun k => ?_) (Ev.bind (f := fun k bt169 => ((klaxonlaw07_num.f bt169.2).bind fun t173 => (if t173 = 0 then ((keys_Put.f k bt169.1).bind fun bt175 => ((klaxonlaw07_num.f bt175.2).bind fun t177 => (if t177 = 0 then (klaxonlaw07_KeysOnce.j0 k a0 a1 bt169.1 (bt175.1.toList != a0.toList)) else (klaxonlaw07_KeysOnce.j0 k a0 a1 bt169.1 true)))) else (if (bt169.1.length : Int) = 0 then ((klaxonlaw07_live.f k).bind fun t174 => (some t174)) else (some false))))) (get_tells a0 (by omega)) ?_)
    · simp only [klaxonlaw07_KeysOnce.f]
      rw [if_neg hz]
    · rcases getS_cases a0 with ⟨l, hg, hw, he, hs⟩ | ⟨hg, _⟩
      · rw [hg]
        refine Ev.congr (fun k => ?_) (Ev.bind (f := fun k bt175 => ((klaxonlaw07_num.f bt175.2).bind fun t177 => (if t177 = 0 then (klaxonlaw07_KeysOnce.j0 k a0 a1 l (bt175.1.toList != a0.toList)) else (klaxonlaw07_KeysOnce.j0 k a0 a1 l true)))) (put_tells l hw) (Ev.congr (fun k => ?_) (once_end a0 a1 l hw he hs (by omega))))
        · simp only [klaxonlaw07_num.f, Option.bind_some, if_true]
        · simp only [klaxonlaw07_num.f, Option.bind_some]
          rw [if_pos he, hs]
          simp
      · rw [hg]
        refine Ev.congr (fun k => ?_) live_some
        simp only [klaxonlaw07_num.f, Option.bind_some]
        rw [if_neg (by omega), if_pos (by simp)]
end Go.Proofs.Ytephhhflifjcmaa.M
