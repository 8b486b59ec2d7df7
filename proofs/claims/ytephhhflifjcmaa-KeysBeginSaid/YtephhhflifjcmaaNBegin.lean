/- Plain law of KeysBegin: a range of keys holds the keys of what begins so, and no other's. -/
import Derived.Test.YtephhhflifjcmaaNSmall
import Derived.Test.YtephhhflifjcmaaKx13
set_option linter.unusedVariables false
set_option linter.unusedSimpArgs false
namespace Go.Proofs.Ytephhhflifjcmaa.M
open Go.RowKit Go.Proofs.Ytephhhflifjcmaa.K Go.Proofs.YtephhhflifjcmaaW.PrintWords Go.Proofs.YtephhhflifjcmaaW.PrintLast
theorem part_short {p : S34} (h : errP p = 0) (hw : I64 p.f1) : (partB p).length ≤ 600 := by
  rcases part_cases h with ⟨_, h2⟩ | ⟨_, h2, h3⟩
  · rw [h2]; have := numB_length hw; omega
  · rw [h2, txtB, List.length_cons]
    have := grp_length (bytesOf p.f2) 0
    rw [bytesOf_length] at this
    omega
theorem enc_short : ∀ {l : List S34}, Ok l → (encL l).length ≤ 600 * l.length
  | [], _ => by simp [encL]
  | p :: l, h => by
    obtain ⟨h1, h2, h3⟩ := h.cons
    rw [encL, List.length_append, List.length_cons]
    have := part_short h1 h2
    have := enc_short h3
    omega
theorem putS_short {l : List S34} (hw : Wf l) (he : putE l = 0) : (putS l).size ≤ 4800 := by
  obtain ⟨h1, h2, h3⟩ := ok_of hw he
  rw [size_bytes, bytes_put hw he]
  have := enc_short h1
  omega
def upS (l : List S34) : ByteArray × ByteArray × Int := if putE l = 0 then (putS l, putS l ++ (⟨#[255]⟩ : ByteArray), 0) else (emp, emp, putE l)
theorem range_tells (l : List S34) (hw : Wf l) : Ev (fun k => keys_Range.f k l) (upS l) := by
  refine Ev.bind (f := fun k bt285 => (if bt285.2 = 0 then (if bt285.1.size + 1 ≤ 9223372036854775807 then (some (bt285.1, bt285.1 ++ (⟨#[255]⟩ : ByteArray), 0)) else (none)) else (some ((⟨#[]⟩ : ByteArray), (⟨#[]⟩ : ByteArray), bt285.2)))) (put_tells l hw) ?_
  refine Ev.congr (fun k => ?_) (Ev.now _)
  unfold upS
  by_cases he : putE l = 0
  · have := putS_short hw he
    rw [if_pos he, if_pos he, if_pos (by show (putS l).size + 1 ≤ _; omega)]
  · rw [if_neg he, if_neg he]; rfl
theorem bytes_up {l : List S34} (hw : Wf l) (he : putE l = 0) : bytesOf (putS l ++ (⟨#[255]⟩ : ByteArray)) = encL l ++ [255] := by
  rw [bytesOf_append, bytes_put hw he]; rfl
theorem begin_more (w r : List S34) (hw : Wf w) (hr : Wf r) (he : putE w = 0) (h1 : w.length ≤ 20) (h2 : r.length ≤ 20) : Ev (fun k => klaxonlaw07_KeysBegin.j2 k w r (putS w) (putS w ++ (⟨#[255]⟩ : ByteArray)) false) true := by
  have wr := scan_wf_append hw hr
  have step : ∀ k, klaxonlaw07_KeysBegin.j2 (k + 1) w r (putS w) (putS w ++ (⟨#[255]⟩ : ByteArray)) false = ((keys_Put.f k (w ++ r)).bind fun bt350 => (if bt350.2 = 0 then (if ((Op.bytesLess bt350.1.toList (putS w).toList) = true) then (some false) else (if (Op.bytesLess bt350.1.toList (putS w ++ (⟨#[255]⟩ : ByteArray)).toList) = true then ((klaxonlaw07_live.f k).bind fun t353 => (some t353)) else (some false))) else ((klaxonlaw07_live.f k).bind fun t354 => (some t354)))) := by
    intro k
    have hlt : w.length < 4398046511104 := by omega
    have hlt2 : w.length + r.length < 4398046511104 := by omega
    simp only [klaxonlaw07_KeysBegin.j2, klaxonlaw07_num.f, Option.bind_some, List.nil_append, List.length_nil, Nat.zero_add, hlt, hlt2, if_true]
    rfl
  refine Ev.step step (Ev.bind (put_tells _ wr) (Ev.congr (fun k => ?_) live_some))
  by_cases hx : putE (w ++ r) = 0
  · have hr0 : Ok r := ⟨by
      have h := (ok_of wr hx).1.1
      rw [scan_append, if_pos (ok_of hw he).1.1] at h
      exact h, hr⟩
    obtain ⟨b1, b2⟩ := begin_yes (w := w) hr0
    rw [if_pos hx, if_neg, if_pos]
    · rw [bytesLess_bytes, bytes_put wr hx, bytes_up hw he, decide_eq_true b2]
    · show ¬ Op.bytesLess (putS (w ++ r)).toList (putS w).toList = true
      rw [bytesLess_bytes, bytes_put wr hx, bytes_put hw he, decide_eq_false b1]; simp
  · rw [if_neg hx]
theorem begin_mid (a w r : List S34) (ha : Wf a) (hw : Wf w) (hr : Wf r) (ea : putE a = 0) (he : putE w = 0) (h1 : w.length ≤ 20) (h2 : r.length ≤ 20) : Ev (fun k => klaxonlaw07_KeysBegin.j1 k a w r (putS a) (putS w) (putS w ++ (⟨#[255]⟩ : ByteArray)) false) true := by
  have oa := (ok_of ha ea).1
  have ow := (ok_of hw he).1
  have more := begin_more w r hw hr he h1 h2
  have b1 : Op.bytesLess (putS a).toList (putS w).toList = decide (lcmp (encL a) (encL w) = -1) := by rw [bytesLess_bytes, bytes_put ha ea, bytes_put hw he]
  have b2 : Op.bytesLess (putS a).toList (putS w ++ (⟨#[255]⟩ : ByteArray)).toList = decide (lcmp (encL a) (encL w ++ [255]) = -1) := by rw [bytesLess_bytes, bytes_put ha ea, bytes_up hw he]
  refine Ev.step (f := fun k => if Op.bytesLess (putS a).toList (putS w).toList = true then ((klaxonref07_Begins.f k a w).bind fun t339 => (klaxonlaw07_KeysBegin.j2 k w r (putS w) (putS w ++ (⟨#[255]⟩ : ByteArray)) (false != t339))) else ((klaxonref07_Begins.f k a w).bind fun t340 => (klaxonlaw07_KeysBegin.j2 k w r (putS w) (putS w ++ (⟨#[255]⟩ : ByteArray)) ((Op.bytesLess (putS a).toList (putS w ++ (⟨#[255]⟩ : ByteArray)).toList) != t340)))) (fun k => ?_) ?_
  · simp only [klaxonlaw07_KeysBegin.j1]
    rw [if_neg (by simp)]
  by_cases hp : w <+: a
  · have hy := begins_yes hp (by omega)
    obtain ⟨q, rfl⟩ := hp
    have oq : Ok q := ⟨by
      have h := oa.1
      rw [scan_append, if_pos ow.1] at h
      exact h, fun p hp => oa.2 p (List.mem_append_right _ hp)⟩
    obtain ⟨y1, y2⟩ := begin_yes (w := w) oq
    rw [b1, b2, decide_eq_false y1, decide_eq_true y2]
    refine Ev.congr (fun k => ?_) (Ev.bind (f := fun k t => klaxonlaw07_KeysBegin.j2 k w r (putS w) (putS w ++ (⟨#[255]⟩ : ByteArray)) (true != t)) hy more)
    rw [if_neg (by simp)]
  · have hn := begins_no hp (by omega)
    by_cases n1 : lcmp (encL a) (encL w) = -1
    · rw [b1, decide_eq_true n1]
      refine Ev.congr (fun k => ?_) (Ev.bind (f := fun k t => klaxonlaw07_KeysBegin.j2 k w r (putS w) (putS w ++ (⟨#[255]⟩ : ByteArray)) (false != t)) hn more)
      rw [if_pos rfl]
    · have n2 := (begin_no ow oa hp).resolve_left n1
      rw [b1, b2, decide_eq_false n1, decide_eq_false n2]
      refine Ev.congr (fun k => ?_) (Ev.bind (f := fun k t => klaxonlaw07_KeysBegin.j2 k w r (putS w) (putS w ++ (⟨#[255]⟩ : ByteArray)) (false != t)) hn more)
      rw [if_neg (by simp)]
theorem begin_end (a w r : List S34) (ha : Wf a) (hw : Wf w) (hr : Wf r) (h1 : w.length ≤ 20) (h2 : r.length ≤ 20) : Ev (fun k => klaxonlaw07_KeysBegin.j0 k a w r false) true := by
  have ht : ∀ x y z, Ev (fun k => klaxonlaw07_KeysBegin.j1 k a w r x y z true) true := by
    intro x y z
    refine Ev.step (fun k => ?_) live_some
    simp only [klaxonlaw07_KeysBegin.j1, if_true]
  refine Ev.step (f := fun k => (keys_Put.f k a).bind fun bt331 => ((keys_Range.f k w).bind fun bt333 => (if bt331.2 = 0 then (klaxonlaw07_KeysBegin.j1 k a w r bt331.1 bt333.1 bt333.2.1 (bt333.2.2 != 0)) else (klaxonlaw07_KeysBegin.j1 k a w r bt331.1 bt333.1 bt333.2.1 true)))) (fun k => ?_) ?_
  · simp only [klaxonlaw07_KeysBegin.j0]
    rw [if_neg (by simp)]
    rfl
  refine Ev.bind (put_tells _ ha) (Ev.bind (range_tells _ hw) ?_)
  by_cases ea : putE a = 0
  · by_cases ew : putE w = 0
    · have hu : upS w = (putS w, putS w ++ (⟨#[255]⟩ : ByteArray), 0) := if_pos ew
      refine Ev.congr (fun k => ?_) (begin_mid a w r ha hw hr ea ew h1 h2)
      rw [if_pos ea, hu]
      rfl
    · have hu : upS w = (emp, emp, putE w) := if_neg ew
      refine Ev.congr (fun k => ?_) (ht (putS a) emp emp)
      rw [if_pos ea, hu]
      show klaxonlaw07_KeysBegin.j1 k a w r (putS a) emp emp (putE w != 0) = _
      rw [bne_iff_ne.2 ew]
  · refine Ev.congr (fun k => ?_) (ht (putS a) (upS w).1 (upS w).2.1)
    rw [if_neg ea]
theorem begin_law (a w r : List S34) (ha : Wf a) (hw : Wf w) (hr : Wf r) : Ev (fun k => klaxonlaw07_KeysBegin.f k a w r) true := by
  have ht : Ev (fun k => klaxonlaw07_KeysBegin.j0 k a w r true) true := by
    refine Ev.step (fun k => ?_) live_some
    simp only [klaxonlaw07_KeysBegin.j0, if_true]
  obtain ⟨c0, hc0, _⟩ := small_tells a
  obtain ⟨c1, hc1, l1⟩ := small_tells w
  obtain ⟨c2, hc2, l2⟩ := small_tells r
  refine Ev.bind (f := fun k t327 => (if t327 = true then ((klaxonlaw07_small.f k w).bind fun t328 => (if t328 = true then ((klaxonlaw07_small.f k r).bind fun t329 => (klaxonlaw07_KeysBegin.j0 k a w r (!t329))) else (klaxonlaw07_KeysBegin.j0 k a w r true))) else (klaxonlaw07_KeysBegin.j0 k a w r true))) hc0 ?_
  cases c0 with
  | false => exact Ev.congr (fun k => by rw [if_neg (by simp)]) ht
  | true =>
    refine Ev.congr (fun k => by rw [if_pos rfl]) (Ev.bind (f := fun k t328 => (if t328 = true then ((klaxonlaw07_small.f k r).bind fun t329 => (klaxonlaw07_KeysBegin.j0 k a w r (!t329))) else (klaxonlaw07_KeysBegin.j0 k a w r true))) hc1 ?_)
    cases c1 with
    | false => exact Ev.congr (fun k => by rw [if_neg (by simp)]) ht
    | true =>
      refine Ev.congr (fun k => by rw [if_pos rfl]) (Ev.bind (f := fun k t329 => (klaxonlaw07_KeysBegin.j0 k a w r (!t329))) hc2 ?_)
      cases c2 with
      | false => exact ht
      | true => exact begin_end a w r ha hw hr (l1 rfl) (l2 rfl)
end Go.Proofs.Ytephhhflifjcmaa.M
