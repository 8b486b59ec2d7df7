/- Plain law of KeysPuts: Put, Get and Range tell what the reference tells. -/
import Derived.Test.YtephhhflifjcmaaNSmall
import Derived.Test.YtephhhflifjcmaaNDec
import Derived.Test.YtephhhflifjcmaaKx12
set_option linter.unusedVariables false
set_option linter.unusedSimpArgs false
namespace Go.Proofs.Ytephhhflifjcmaa.M
open Go.RowKit Go.Proofs.Ytephhhflifjcmaa.K Go.Proofs.YtephhhflifjcmaaW.PrintWords Go.Proofs.YtephhhflifjcmaaW.PrintLast
theorem scan_mem : ∀ {l : List S34} {p : S34}, scan l = 0 → p ∈ l → errP p = 0
  | q :: l, p, h, hp => by
    obtain ⟨h1, h2⟩ := scan_cons h
    rcases List.mem_cons.1 hp with rfl | hp
    · exact h1
    · exact scan_mem h2 hp
theorem part_short {p : S34} (h : errP p = 0) (hw : I64 p.f1) : (partB p).length ≤ 600 := by
  rcases part_cases h with ⟨_, h2⟩ | ⟨_, h2, h3⟩
  · rw [h2]; have := numB_length hw; omega
  · rw [h2, txtB, List.length_cons]
    have := grp_length (bytesOf p.f2) 0
    rw [bytesOf_length] at this
    omega
theorem enc_short : ∀ {l : List S34}, Ok l → (encL l).length ≤ 600 * l.length
  | [], _ => by simp [encL]
  | p :: l, h => by
    obtain ⟨h1, h2, h3⟩ := h.cons
    rw [encL, List.length_append, List.length_cons]
    have := part_short h1 h2
    have := enc_short h3
    omega
theorem putS_short {l : List S34} (hw : Wf l) (he : putE l = 0) : (putS l).size ≤ 4800 := by
  obtain ⟨h1, h2, h3⟩ := ok_of hw he
  rw [size_bytes, bytes_put hw he]
  have := enc_short h1
  omega
def upS (l : List S34) : ByteArray × ByteArray × Int := if putE l = 0 then (putS l, putS l ++ (⟨#[255]⟩ : ByteArray), 0) else (emp, emp, putE l)
theorem range_tells (l : List S34) (hw : Wf l) : Ev (fun k => keys_Range.f k l) (upS l) := by
  refine Ev.bind (f := fun k bt285 => (if bt285.2 = 0 then (if bt285.1.size + 1 ≤ 9223372036854775807 then (some (bt285.1, bt285.1 ++ (⟨#[255]⟩ : ByteArray), 0)) else (none)) else (some ((⟨#[]⟩ : ByteArray), (⟨#[]⟩ : ByteArray), bt285.2)))) (put_tells l hw) ?_
  refine Ev.congr (fun k => ?_) (Ev.now _)
  unfold upS
  by_cases he : putE l = 0
  · have := putS_short hw he
    rw [if_pos he, if_pos he, if_pos (by show (putS l).size + 1 ≤ _; omega)]
  · rw [if_neg he, if_neg he]; rfl
theorem bytes_up {l : List S34} (hw : Wf l) (he : putE l = 0) : bytesOf (putS l ++ (⟨#[255]⟩ : ByteArray)) = encL l ++ [255] := by
  rw [bytesOf_append, bytes_put hw he]; rfl
theorem needs_loop : ∀ (f m : Nat) (x : Nat), m < 256 ^ f → x + f < 1000 → Ev (fun k => klaxonref07_needs.l0 k (m : Int) (x : Int)) ((x + nbF f m : Nat) : Int)
  | 0, m, x, h, hx => by
    obtain rfl : m = 0 := by simpa using h
    refine Ev.step (fun k => ?_) (Ev.now _)
    rw [klaxonref07_needs.l0, if_neg (by simp)]
    rfl
  | f + 1, m, x, h, hx => by
    by_cases h0 : m = 0
    · subst h0
      refine Ev.step (fun k => ?_) (Ev.now _)
      rw [klaxonref07_needs.l0, if_neg (by simp), nbF, if_pos rfl]
      rfl
    · have ih := needs_loop f (m / 256) (x + 1) (by rw [Nat.pow_succ] at h; omega) (by omega)
      rw [nbF, if_neg h0, show x + (1 + nbF f (m / 256)) = x + 1 + nbF f (m / 256) by omega]
      refine Ev.step (fun k => ?_) ih
      rw [klaxonref07_needs.l0, if_pos (by omega), show wrap64 ((x : Int) + 1) = ((x + 1 : Nat) : Int) by unfold wrap64; omega, show (m : Int) / 256 = ((m / 256 : Nat) : Int) by omega]
theorem needs_tells {m : Nat} (h : m < 18446744073709551616) : Ev (fun k => klaxonref07_needs.f k (m : Int)) ((nb m : Nat) : Int) := by
  have := needs_loop 9 m 0 (Nat.lt_of_lt_of_le h (by decide)) (by omega)
  rw [Nat.zero_add] at this
  exact this
theorem rnum_loop (g : Bool) (m : Nat) : ∀ (d : Nat) (x : List Int), d ≤ 8 → x.length + d < 140737488355328 →
    Ev (fun k => klaxonref07_number.l0 k g (m : Int) x ((d : Int) - 1)) (strOfNums (x ++ if g = true then (be d m).map (255 - ·) else be d m))
  | 0, x, h, hl => by
    refine Ev.step (fun k => ?_) (Ev.now _)
    rw [klaxonref07_number.l0, if_neg (by omega)]
    simp [be]
  | d + 1, x, h, hl => by
    have e3 : wrap64 (8 * (d : Int)) = ((8 * d : Nat) : Int) := by unfold wrap64; omega
    have e4 : IntKind.u64.wrap ((8 * d : Nat) : Int) = ((8 * d : Nat) : Int) := by rw [wrap_u64]; omega
    have e5 : wrap64 ((d : Int) - 1) = (d : Int) - 1 := by unfold wrap64; omega
    have e6 : ((d + 1 : Nat) : Int) - 1 = (d : Int) := by omega
    cases g with
    | true =>
      have ih := rnum_loop true m d (x ++ [255 - ((m / 256 ^ d % 256 : Nat) : Int)]) (by omega) (by rw [List.length_append, List.length_singleton]; omega)
      rw [if_pos rfl] at ih ⊢
      rw [be, List.map_cons, ← List.singleton_append (l := List.map _ _), ← List.append_assoc]
      refine Ev.step (fun k => ?_) ih
      rw [klaxonref07_number.l0, e6, if_pos (by omega), e3, e4, if_pos (by omega), if_pos rfl, if_pos (by omega), shr_be m d (by omega), e5]
    | false =>
      have ih := rnum_loop false m d (x ++ [((m / 256 ^ d % 256 : Nat) : Int)]) (by omega) (by rw [List.length_append, List.length_singleton]; omega)
      rw [if_neg (by simp)] at ih ⊢
      rw [be, ← List.singleton_append (l := be d m), ← List.append_assoc]
      refine Ev.step (fun k => ?_) ih
      rw [klaxonref07_number.l0, e6, if_pos (by omega), e3, e4, if_pos (by omega), if_neg (by simp), if_pos (by omega), shr_be m d (by omega), e5]
theorem rnumber_tells {n : Int} (hn : I64 n) : Ev (fun k => klaxonref07_number.f k n) (strOfNums (numB n)) := by
  have hm := mag_lt hn
  have hm2 : mag n < 18446744073709551616 := by omega
  have hb := nb_le8 hm2
  by_cases h0 : n < 0
  · have hN : numB n = (127 - (nb (mag n) : Int)) :: (be (nb (mag n)) (mag n)).map (255 - ·) := by unfold numB; rw [if_pos h0]
    have e : IntKind.u64.wrap (wrap64 ((-1) - n)) = ((mag n : Nat) : Int) := by
      obtain ⟨h1, h2⟩ := hn
      rw [wrap_u64]
      unfold wrap64 mag
      rw [if_pos h0]
      omega
    have last := rnum_loop true (mag n) (nb (mag n)) [127 - (nb (mag n) : Int)] hb (by simp; omega)
    rw [if_pos rfl, List.singleton_append, ← hN] at last
    refine Ev.congr (fun k => ?_) (Ev.step (f := fun k => (klaxonref07_needs.f k ((mag n : Nat) : Int)).bind fun t241 => klaxonref07_number.j1 k true ((mag n : Nat) : Int) t241 [(wrap64 (127 - t241)) % 256]) (g := fun k => klaxonref07_number.j0 k true ((mag n : Nat) : Int)) (fun k => ?_) (Ev.bind (f := fun k t241 => klaxonref07_number.j1 k true ((mag n : Nat) : Int) t241 [(wrap64 (127 - t241)) % 256]) (needs_tells hm2) (Ev.step (fun k => ?_) last)))
    · rw [klaxonref07_number.f, if_pos h0, decide_eq_true h0, e]
    · rw [klaxonref07_number.j0]
      rfl
    · rw [klaxonref07_number.j1]
      rw [show wrap64 (((nb (mag n) : Nat) : Int) - 1) = ((nb (mag n) : Nat) : Int) - 1 by unfold wrap64; omega, show wrap64 (127 - ((nb (mag n) : Nat) : Int)) % 256 = 127 - ((nb (mag n) : Nat) : Int) by unfold wrap64; omega]
  · have hN : numB n = (128 + (nb (mag n) : Int)) :: be (nb (mag n)) (mag n) := by unfold numB; rw [if_neg h0]
    have e : IntKind.u64.wrap n = ((mag n : Nat) : Int) := by
      obtain ⟨h1, h2⟩ := hn
      rw [wrap_u64]
      unfold mag
      rw [if_neg h0]
      omega
    have last := rnum_loop false (mag n) (nb (mag n)) [128 + (nb (mag n) : Int)] hb (by simp; omega)
    rw [if_neg (by simp), List.singleton_append, ← hN] at last
    refine Ev.congr (fun k => ?_) (Ev.step (f := fun k => (klaxonref07_needs.f k ((mag n : Nat) : Int)).bind fun t241 => klaxonref07_number.j1 k false ((mag n : Nat) : Int) t241 [(wrap64 (128 + t241)) % 256]) (g := fun k => klaxonref07_number.j0 k false ((mag n : Nat) : Int)) (fun k => ?_) (Ev.bind (f := fun k t241 => klaxonref07_number.j1 k false ((mag n : Nat) : Int) t241 [(wrap64 (128 + t241)) % 256]) (needs_tells hm2) (Ev.step (fun k => ?_) last)))
    · rw [klaxonref07_number.f, if_neg h0, decide_eq_false h0, e]
    · rw [klaxonref07_number.j0]
      rfl
    · rw [klaxonref07_number.j1]
      rw [show wrap64 (((nb (mag n) : Nat) : Int) - 1) = ((nb (mag n) : Nat) : Int) - 1 by unfold wrap64; omega, show wrap64 (128 + ((nb (mag n) : Nat) : Int)) % 256 = 128 + ((nb (mag n) : Nat) : Int) by unfold wrap64; omega]
theorem mn_nat (a b : Nat) : mn (a : Int) (b : Int) = ((min a b : Nat) : Int) := by
  unfold mn; split <;> omega
theorem rtext_loop : ∀ (n : Nat) (s : ByteArray) (x : List Int), s.size < n → x.length + 9 * s.size + 100 < 140737488355328 → Ev (fun k => klaxonref07_text.l0 k s x) (strOfNums (x ++ grp 0 (bytesOf s)))
  | 0, s, x, hn, _ => by omega
  | n + 1, s, x, hn, hl => by
    have em : mn 8 (s.size : Int) = ((min 8 s.size : Nat) : Int) := mn_nat 8 s.size
    have esz : (s.extract 0 (min 8 s.size)).size = min 8 s.size := by simp
    have erest : bytesOf (s.extract (min 8 s.size) s.size) = (bytesOf s).drop (min 8 s.size) := bytesOf_rest s _
    have etake : bytesOf (s.extract 0 (min 8 s.size)) = (bytesOf s).take (min 8 s.size) := by
      unfold bytesOf
      rw [Lib.extract_data, List.drop_zero, Nat.sub_zero, List.map_take]
    have hlen : (bytesOf s).length = s.size := bytesOf_length s
    have go := grp_open (bytesOf s) 0 (by omega)
    rw [hlen, Nat.sub_zero] at go
    have step : ∀ k, klaxonref07_text.l0 (k + 1) s x = (if (s.extract (min 8 s.size) s.size).toList = ([] : List UInt8) then (some (strOfNums (x ++ (bytesOf s).take (min 8 s.size) ++ List.replicate (8 - min 8 s.size) 0 ++ [((min 8 s.size : Nat) : Int)]))) else (klaxonref07_text.l0 k (s.extract (min 8 s.size) s.size) (x ++ (bytesOf s).take (min 8 s.size) ++ List.replicate (8 - min 8 s.size) 0 ++ [9]))) := by
      intro k
      have e8 : ((8 : Int) - ((min 8 s.size : Nat) : Int)).toNat = 8 - min 8 s.size := by omega
      have tl : ((bytesOf s).take (min 8 s.size)).length = min 8 s.size := by rw [List.length_take, hlen]; omega
      rw [klaxonref07_text.l0, em, if_pos (by omega), if_pos (by omega), Int.toNat_natCast, esz, if_pos (by omega), Option.bind_some, if_pos (by omega), e8, etake, if_pos (by rw [List.length_append, tl]; omega), Option.bind_some]
      by_cases h : (s.extract (min 8 s.size) s.size).toList = ([] : List UInt8)
      · rw [if_pos h, if_pos h, if_pos (by rw [List.length_append, List.length_append, tl, List.length_replicate]; omega)]
      · rw [if_neg h, if_neg h, if_pos (by rw [List.length_append, List.length_append, tl, List.length_replicate]; omega)]
    by_cases h : s.size ≤ 8
    · have h0 : (s.extract (min 8 s.size) s.size).toList = ([] : List UInt8) := by
        rw [toList_nil, erest]
        exact List.drop_of_length_le (by omega)
      have e : x ++ grp 0 (bytesOf s) = x ++ (bytesOf s).take (min 8 s.size) ++ List.replicate (8 - min 8 s.size) 0 ++ [((min 8 s.size : Nat) : Int)] := by
        rw [go, if_pos h, Nat.min_eq_right h, Nat.zero_add, List.take_of_length_le (show (bytesOf s).length ≤ s.size by omega), List.take_of_length_le (show (bytesOf s).length ≤ 8 by omega)]
        simp only [List.append_assoc]
      rw [e]
      refine Ev.step (fun k => ?_) (Ev.now _)
      rw [step, if_pos h0]
    · have e8 : min 8 s.size = 8 := by omega
      rw [e8] at step erest
      have h0 : ¬ (s.extract 8 s.size).toList = ([] : List UInt8) := by
        rw [toList_nil, erest]
        intro hd
        have := congrArg List.length hd
        rw [List.length_drop, hlen] at this
        simp at this
        omega
      have hsz : (s.extract 8 s.size).size = s.size - 8 := by simp
      have ih := rtext_loop n (s.extract 8 s.size) (x ++ (bytesOf s).take 8 ++ List.replicate (8 - 8) 0 ++ [9]) (by omega) (by
        rw [List.length_append, List.length_append, List.length_append, List.length_take, hlen, List.length_replicate, hsz, List.length_singleton]; omega)
      have e : x ++ grp 0 (bytesOf s) = x ++ (bytesOf s).take 8 ++ List.replicate (8 - 8) 0 ++ [9] ++ grp 0 (bytesOf (s.extract 8 s.size)) := by
        rw [go, if_neg h, show 8 - s.size = 0 by omega, erest]
        simp only [List.append_assoc, Nat.sub_self, List.replicate_zero, List.nil_append, List.cons_append]
      rw [e]
      refine Ev.step (fun k => ?_) ih
      rw [step, if_neg h0]
theorem rtext_tells (s : ByteArray) (h : s.size ≤ 1000) : Ev (fun k => klaxonref07_text.f k s) (strOfNums (txtB s)) := by
  have := rtext_loop (s.size + 1) s [160] (by omega) (by simp; omega)
  rw [List.singleton_append] at this
  exact this
theorem rput_make (l : List S34) (hw : Wf l) (hs : scan l = 0) (h8 : l.length ≤ 8) : ∀ (d i : Nat) (x : ByteArray), i + d = l.length → x.size ≤ 600 * i → Ev (fun k => klaxonref07_Put.l1 k l x (i : Int)) (x ++ strOfNums (encL (l.drop i)), 0)
  | 0, i, x, hi, hx => by
    refine Ev.step (fun k => ?_) (Ev.now _)
    rw [klaxonref07_Put.l1, if_neg (by omega), List.drop_of_length_le (by omega), encL]
    congr 2
    exact text_ext (by rw [bytesOf_append, bytesOf_nums Bytes.nil, List.append_nil])
  | d + 1, i, x, hi, hx => by
    have h1 : i < l.length := by omega
    have hp := scan_mem hs (List.getElem_mem h1)
    have hi64 : I64 (l[i]).f1 := hw _ (List.getElem_mem h1)
    have hsz : (strOfNums (partB l[i])).size = (partB l[i]).length := nums_size _
    have hps := part_short hp hi64
    have ih := rput_make l hw hs h8 d (i + 1) (x ++ strOfNums (partB l[i])) (by omega) (by rw [ByteArray.size_append, hsz]; omega)
    have e : x ++ strOfNums (encL (l.drop i)) = x ++ strOfNums (partB l[i]) ++ strOfNums (encL (l.drop (i + 1))) := by
      rw [List.drop_eq_getElem_cons h1, encL, nums_append, ByteArray.append_assoc]
    rw [e]
    have e1 : wrap64 ((i : Int) + 1) = ((i + 1 : Nat) : Int) := by unfold wrap64; omega
    by_cases h : (l[i]).f0 = 1
    · have eb : partB l[i] = numB (l[i]).f1 := by unfold partB; rw [if_pos h]
      rw [eb] at ih hsz hps ⊢
      refine Ev.step (f := fun k => (klaxonref07_number.f k (l[i]).f1).bind fun t271 => (if x.size + t271.size ≤ 9223372036854775807 then (klaxonref07_Put.l1 k l (x ++ t271) ((i + 1 : Nat) : Int)) else (none))) (fun k => ?_) (Ev.bind (rnumber_tells hi64) (Ev.congr (fun k => ?_) ih))
      · rw [klaxonref07_Put.l1, if_pos (by omega), if_pos (by omega), rd_at h1, if_pos h, e1]
      · rw [if_pos (by omega)]
    · have eb : partB l[i] = txtB (l[i]).f2 := by unfold partB; rw [if_neg h]
      have ht : (l[i]).f2.size ≤ 1000 := by
        rcases part_cases hp with ⟨g, _⟩ | ⟨_, _, g⟩
        · exact absurd (by rw [g]) h
        · omega
      rw [eb] at ih hsz hps ⊢
      refine Ev.step (f := fun k => (klaxonref07_text.f k (l[i]).f2).bind fun t273 => (if x.size + t273.size ≤ 9223372036854775807 then (klaxonref07_Put.l1 k l (x ++ t273) ((i + 1 : Nat) : Int)) else (none))) (fun k => ?_) (Ev.bind (rtext_tells _ ht) (Ev.congr (fun k => ?_) ih))
      · rw [klaxonref07_Put.l1, if_pos (by omega), if_pos (by omega), rd_at h1, if_neg h, e1]
      · rw [if_pos (by omega)]
theorem rput_scan (l : List S34) (hw : Wf l) (h8 : l.length ≤ 8) (hall : scan l = 0 → Ev (fun k => klaxonref07_Put.l1 k l emp 0) (strOfNums (encL l), 0)) : ∀ (d i : Nat), i + d = l.length → scan l = scan (l.drop i) → Ev (fun k => klaxonref07_Put.l0 k l (i : Int)) (if scan l = 0 then strOfNums (encL l) else emp, scan l)
  | 0, i, hi, hs => by
    rw [List.drop_of_length_le (by omega)] at hs
    have h0 : scan l = 0 := hs
    rw [if_pos h0, h0]
    refine Ev.step (fun k => ?_) (hall h0)
    rw [klaxonref07_Put.l0, if_neg (by omega)]
    rfl
  | d + 1, i, hi, hs => by
    have h1 : i < l.length := by omega
    rw [List.drop_eq_getElem_cons h1, scan] at hs
    have e1 : wrap64 ((i : Int) + 1) = ((i + 1 : Nat) : Int) := by unfold wrap64; omega
    have ih := rput_scan l hw h8 hall d (i + 1) (by omega)
    have go : ∀ b, (b = true → errP l[i] = 2) → (b = false → errP l[i] = if (l[i]).f2.size > 256 then 1 else 0) → Ev (fun k => klaxonref07_Put.j1 k l (i : Int) b (l[i]).f0 (l[i]).f1 (l[i]).f2) (if scan l = 0 then strOfNums (encL l) else emp, scan l) := by
      intro b hb1 hb0
      cases b with
      | true =>
        have he := hb1 rfl
        rw [he, if_neg (by decide)] at hs
        rw [hs, if_neg (by decide)]
        refine Ev.step (fun k => ?_) (Ev.now _)
        rw [klaxonref07_Put.j1, if_pos rfl]; rfl
      | false =>
        have he := hb0 rfl
        by_cases h : (l[i]).f2.size > 256
        · rw [if_pos h] at he
          rw [he, if_neg (by decide)] at hs
          rw [hs, if_neg (by decide)]
          refine Ev.step (fun k => ?_) (Ev.now _)
          rw [klaxonref07_Put.j1, if_neg (by simp), if_pos (by omega)]; rfl
        · rw [if_neg h] at he
          rw [he, if_pos rfl] at hs
          refine Ev.step (fun k => ?_) (ih hs)
          rw [klaxonref07_Put.j1, if_neg (by simp), if_neg (by omega), e1]
    have ep : errP l[i] = if (l[i]).f0 = 1 ∧ (l[i]).f2 = emp then 0 else if (l[i]).f0 = 2 ∧ (l[i]).f1 = 0 then (if (l[i]).f2.size > 256 then 1 else 0) else 2 := rfl
    by_cases c1 : (l[i]).f0 = 1
    · by_cases c2 : (l[i]).f2 = emp
      · refine Ev.step (fun k => ?_) (go false (by simp) (fun _ => ?_))
        · rw [klaxonref07_Put.l0, if_pos (by omega), if_pos (by omega), rd_at h1, if_pos c1, if_pos ((emp_iff _).2 c2), if_neg (by omega)]
        · rw [ep, if_pos ⟨c1, c2⟩, if_neg (by rw [c2]; show ¬ (0 > 256); omega)]
      · refine Ev.step (fun k => ?_) (go true (fun _ => ?_) (by simp))
        · rw [klaxonref07_Put.l0, if_pos (by omega), if_pos (by omega), rd_at h1, if_pos c1, if_neg (fun h => c2 ((emp_iff _).1 h))]
        · rw [ep, if_neg (fun h => c2 h.2), if_neg (by omega)]
    · by_cases c2 : (l[i]).f0 = 2
      · by_cases c3 : (l[i]).f1 = 0
        · refine Ev.step (fun k => ?_) (go false (by simp) (fun _ => ?_))
          · rw [klaxonref07_Put.l0, if_pos (by omega), if_pos (by omega), rd_at h1, if_neg c1, if_pos c2, c3]; rfl
          · rw [ep, if_neg (fun h => c1 h.1), if_pos ⟨c2, c3⟩]
        · refine Ev.step (fun k => ?_) (go true (fun _ => ?_) (by simp))
          · rw [klaxonref07_Put.l0, if_pos (by omega), if_pos (by omega), rd_at h1, if_neg c1, if_pos c2, bne_iff_ne.2 c3]
          · rw [ep, if_neg (fun h => c1 h.1), if_neg (fun h => c3 h.2)]
      · refine Ev.step (fun k => ?_) (go true (fun _ => ?_) (by simp))
        · rw [klaxonref07_Put.l0, if_pos (by omega), if_pos (by omega), rd_at h1, if_neg c1, if_neg c2]
        · rw [ep, if_neg (fun h => c1 h.1), if_neg (fun h => c2 h.1)]
theorem rput_tells (l : List S34) (hw : Wf l) : Ev (fun k => klaxonref07_Put.f k l) (putS l, putE l) := by
  by_cases h8 : l.length > 8
  · have he : putE l = 6 := by unfold putE; rw [if_pos h8]
    have hs : putS l = emp := by unfold putS; rw [if_neg (by rw [he]; decide)]
    rw [hs, he]
    refine Ev.congr (fun k => ?_) (Ev.now _)
    rw [klaxonref07_Put.f, if_pos (by omega)]; rfl
  · have he : putE l = scan l := by unfold putE; rw [if_neg h8]
    have hs : putS l = if scan l = 0 then strOfNums (encL l) else emp := by unfold putS; rw [he]
    rw [hs, he]
    refine Ev.congr (fun k => ?_) (rput_scan l hw (by omega) (fun h0 => ?_) l.length 0 (by omega) rfl)
    · rw [klaxonref07_Put.f, if_neg (by omega)]; rfl
    · have := rput_make l hw h0 (by omega) l.length 0 emp (by omega) (by show 0 ≤ _; omega)
      have e : emp ++ strOfNums (encL (l.drop 0)) = strOfNums (encL l) := text_ext (by rw [bytesOf_append]; rfl)
      rw [e] at this
      exact this
abbrev RP := Int × Int × ByteArray × Int
def zeroR : RP := (0, 0, emp, 0)
/-- How much of the text was read: none, or some of it; the number is of its kind. -/
def Good (s : ByteArray) (r : RP) : Prop := 0 ≤ r.2.2.2 ∧ r.2.2.2 ≤ (s.size : Int) ∧ I64 r.2.1
theorem good_zero (s : ByteArray) : Good s zeroR := ⟨Int.le_refl 0, Int.natCast_nonneg _, by decide, by decide⟩
theorem extract_cut (s : ByteArray) (i j : Nat) : bytesOf (s.extract i j) = ((bytesOf s).drop i).take (j - i) := by
  unfold bytesOf
  rw [Lib.extract_data, List.map_take, List.map_drop]
theorem wbt (s : ByteArray) (i : Int) : wrap64 (bt s i) = bt s i := by
  have := bt_range s i
  unfold wrap64; omega
theorem rtext_more (s x : ByteArray) (i : Nat) (hz : s.size ≤ 100000) (h : i + 9 ≤ s.size) (hx : x.size ≤ i) (hc : bt s ((i + 8 : Nat) : Int) = 9) (k : Nat) : klaxonref07_part.l0 (k + 1) s x (i : Int) = klaxonref07_part.l0 k s (x ++ s.extract i (i + 8)) ((i + 9 : Nat) : Int) := by
  have e9 : wrap64 ((i : Int) + 9) = ((i + 9 : Nat) : Int) := by unfold wrap64; omega
  have e8 : wrap64 ((i : Int) + 8) = ((i + 8 : Nat) : Int) := by unfold wrap64; omega
  have hsz : (s.extract i (i + 8)).size ≤ 8 := by simp; omega
  rw [klaxonref07_part.l0, e9, e8, wbt, hc, if_pos (by omega), if_pos (by omega), if_pos (by omega), if_pos rfl, if_pos (by omega), if_pos (by omega), if_pos (by omega), Int.toNat_natCast, Int.toNat_natCast, if_pos (by omega)]
theorem rtext_last (s x : ByteArray) (i c : Nat) (hz : s.size ≤ 100000) (h : i + 9 ≤ s.size) (hx : x.size ≤ i) (hc : bt s ((i + 8 : Nat) : Int) = (c : Int)) (c8 : c ≤ 8) (k : Nat) : klaxonref07_part.l0 (k + 1) s x (i : Int) = some (2, 0, x ++ s.extract i (i + c), ((i + 9 : Nat) : Int)) := by
  have e9 : wrap64 ((i : Int) + 9) = ((i + 9 : Nat) : Int) := by unfold wrap64; omega
  have e8 : wrap64 ((i : Int) + 8) = ((i + 8 : Nat) : Int) := by unfold wrap64; omega
  have ec : wrap64 ((i : Int) + (c : Int)) = ((i + c : Nat) : Int) := by unfold wrap64; omega
  have hsz : (s.extract i (i + c)).size ≤ 8 := by simp; omega
  rw [klaxonref07_part.l0, e9, e8, wbt, hc, if_pos (by omega), if_pos (by omega), if_pos (by omega), if_neg (by omega), if_neg (by omega), if_pos (by omega), ec, if_pos (by omega), if_pos (by omega), Int.toNat_natCast, Int.toNat_natCast, if_pos (by omega)]
theorem mag_neg {n : Int} (hn : I64 n) (h0 : n < 0) : wrap64 ((-1) - wrap64 ((mag n : Nat) : Int)) = n := by
  have q : ((mag n : Nat) : Int) = -1 - n := by unfold mag; rw [if_pos h0]; omega
  have q1 : wrap64 ((mag n : Nat) : Int) = -1 - n := by rw [q]; exact w64 ⟨by have := hn.2; omega, by have := hn.1; omega⟩
  rw [q1, show (-1 : Int) - (-1 - n) = n by omega]
  exact w64 hn
theorem mag_pos {n : Int} (hn : I64 n) (h0 : ¬ n < 0) : wrap64 ((mag n : Nat) : Int) = n := by
  have q : ((mag n : Nat) : Int) = n := by unfold mag; rw [if_neg h0]; omega
  rw [q]
  exact w64 hn
theorem nums_end_one (x : ByteArray) (t : List Int) : x ++ strOfNums (t.take 8) ++ strOfNums (t.drop 8) = x ++ strOfNums t := by rw [ByteArray.append_assoc, ← nums_append, List.take_append_drop]
theorem rtext_total (s : ByteArray) (hz : s.size ≤ 100000) : ∀ (n i : Nat) (x : ByteArray), s.size < i + n → x.size ≤ i → i ≤ s.size + 10 → ∃ r, Ev (fun k => klaxonref07_part.l0 k s x (i : Int)) r ∧ Good s r
  | 0, i, x, hn, hx, hi => ⟨zeroR, by
      refine Ev.step (fun k => ?_) (Ev.now _)
      rw [klaxonref07_part.l0, if_neg (by unfold wrap64; omega)]; rfl, good_zero s⟩
  | n + 1, i, x, hn, hx, hi => by
    have e9 : wrap64 ((i : Int) + 9) = ((i + 9 : Nat) : Int) := by unfold wrap64; omega
    have e8 : wrap64 ((i : Int) + 8) = ((i + 8 : Nat) : Int) := by unfold wrap64; omega
    by_cases h : i + 9 ≤ s.size
    · have hb := bt_range s ((i + 8 : Nat) : Int)
      by_cases c9 : bt s ((i + 8 : Nat) : Int) = 9
      · have hsz : (s.extract i (i + 8)).size ≤ 8 := by simp; omega
        obtain ⟨r, hr, hg⟩ := rtext_total s hz n (i + 9) (x ++ s.extract i (i + 8)) (by omega) (by rw [ByteArray.size_append]; omega) (by omega)
        refine ⟨r, Ev.step (fun k => ?_) hr, hg⟩
        rw [klaxonref07_part.l0, e9, e8, wbt, if_pos (by omega), if_pos (by omega), if_pos (by omega), if_pos c9, if_pos (by omega), if_pos (by omega), if_pos (by omega), Int.toNat_natCast, Int.toNat_natCast, if_pos (by omega)]
      · by_cases cg : bt s ((i + 8 : Nat) : Int) > 9
        · refine ⟨zeroR, Ev.step (fun k => ?_) (Ev.now _), good_zero s⟩
          rw [klaxonref07_part.l0, e9, e8, wbt, if_pos (by omega), if_pos (by omega), if_pos (by omega), if_neg c9, if_pos cg]; rfl
        · have ec : wrap64 ((i : Int) + bt s ((i + 8 : Nat) : Int)) = ((i + (bt s ((i + 8 : Nat) : Int)).toNat : Nat) : Int) := by unfold wrap64; omega
          have hsz0 : ∀ c : Nat, c ≤ 8 → (s.extract i (i + c)).size ≤ 8 := by intro c hc; simp; omega
          have hsz := hsz0 (bt s ((i + 8 : Nat) : Int)).toNat (by omega)
          refine ⟨(2, 0, x ++ s.extract i (i + (bt s ((i + 8 : Nat) : Int)).toNat), ((i + 9 : Nat) : Int)), Ev.step (fun k => ?_) (Ev.now _), ?_⟩
          · rw [klaxonref07_part.l0, e9, e8, wbt, if_pos (by omega), if_pos (by omega), if_pos (by omega), if_neg c9, if_neg cg, if_pos (by omega), ec, if_pos (by omega), if_pos (by omega), Int.toNat_natCast, Int.toNat_natCast, if_pos (by omega)]
          · exact ⟨by show (0 : Int) ≤ ((i + 9 : Nat) : Int); omega, by show ((i + 9 : Nat) : Int) ≤ _; omega, by show -9223372036854775808 ≤ (0 : Int); decide, by show (0 : Int) ≤ 9223372036854775807; decide⟩
    · refine ⟨zeroR, Ev.step (fun k => ?_) (Ev.now _), good_zero s⟩
      rw [klaxonref07_part.l0, e9, if_neg (by omega)]; rfl
theorem bytes_at {s : ByteArray} {p q : List Int} {c : Int} (h : bytesOf s = p ++ c :: q) : bt s ((p.length : Nat) : Int) = c := by
  rw [bt_get, h]; simp
theorem bytes_mid {s : ByteArray} {p q r : List Int} (h : bytesOf s = p ++ (q ++ r)) : bytesOf (s.extract p.length (p.length + q.length)) = q := by
  rw [extract_cut, h, List.drop_left' rfl, Nat.add_sub_cancel_left, List.take_left' rfl]
theorem rtext_exact (s : ByteArray) (hz : s.size ≤ 100000) : ∀ (n : Nat) (p t y : List Int) (x : ByteArray), t.length < n → Bytes t → bytesOf s = p ++ (grp 0 t ++ y) → x.size ≤ p.length → Ev (fun k => klaxonref07_part.l0 k s x (p.length : Int)) (2, 0, x ++ strOfNums t, ((p.length + (grp 0 t).length : Nat) : Int))
  | 0, p, t, y, x, hn, _, _, _ => by omega
  | n + 1, p, t, y, x, hn, ht, h, hx => by
    have go := grp_open t 0 (by omega)
    rw [Nat.sub_zero] at go
    have hlen : s.size = p.length + ((grp 0 t).length + y.length) := by rw [size_bytes, h, List.length_append, List.length_append]
    by_cases h8 : t.length ≤ 8
    · have eg : grp 0 t = t ++ List.replicate (8 - t.length) 0 ++ [((t.length : Nat) : Int)] := by rw [go, if_pos h8, Nat.zero_add, List.take_of_length_le h8]
      have el : (grp 0 t).length = 9 := by rw [eg]; simp; omega
      rw [el] at hlen ⊢
      have hc : bt s ((p.length + 8 : Nat) : Int) = ((t.length : Nat) : Int) := by
        have := bytes_at (s := s) (p := p ++ (t ++ List.replicate (8 - t.length) 0)) (q := y) (c := ((t.length : Nat) : Int)) (by rw [h, eg]; simp only [List.append_assoc, List.cons_append, List.nil_append])
        have ep : (p ++ (t ++ List.replicate (8 - t.length) 0)).length = p.length + 8 := by simp; omega
        rwa [ep] at this
      have hm : s.extract p.length (p.length + t.length) = strOfNums t := by
        refine nums_ext (bytes_mid (q := t) (r := List.replicate (8 - t.length) 0 ++ [((t.length : Nat) : Int)] ++ y) ?_)
        rw [h, eg]; simp only [List.append_assoc]
      refine Ev.step (fun k => ?_) (Ev.now _)
      rw [rtext_last s x p.length t.length hz (by omega) hx hc h8 k, hm]
    · have eg : grp 0 t = t.take 8 ++ 9 :: grp 0 (t.drop 8) := by
        rw [go, if_neg h8, show 8 - t.length = 0 by omega, List.replicate_zero, List.append_nil]
      have tl : (t.take 8).length = 8 := by rw [List.length_take]; omega
      have el : (grp 0 t).length = 9 + (grp 0 (t.drop 8)).length := by rw [eg, List.length_append, List.length_cons, tl]; omega
      have hc : bt s ((p.length + 8 : Nat) : Int) = 9 := by
        have := bytes_at (s := s) (p := p ++ t.take 8) (q := grp 0 (t.drop 8) ++ y) (c := 9) (by rw [h, eg]; simp only [List.append_assoc, List.cons_append, List.nil_append])
        rwa [List.length_append, tl] at this
      have hm : s.extract p.length (p.length + 8) = strOfNums (t.take 8) := by
        have := bytes_mid (s := s) (p := p) (q := t.take 8) (r := 9 :: grp 0 (t.drop 8) ++ y) (by rw [h, eg]; simp only [List.append_assoc])
        rw [tl] at this
        exact nums_ext this
      have hsz : (strOfNums (t.take 8)).size = 8 := by rw [nums_size, tl]
      have ep : (p ++ (t.take 8 ++ [9])).length = p.length + 9 := by rw [List.length_append, List.length_append, tl]; rfl
      have ih := rtext_exact s hz n (p ++ (t.take 8 ++ [9])) (t.drop 8) y (x ++ strOfNums (t.take 8)) (by rw [List.length_drop]; omega) (fun b hb => ht b (List.mem_of_mem_drop hb)) (by rw [h, eg]; simp only [List.append_assoc, List.cons_append, List.nil_append]) (by rw [ByteArray.size_append, hsz, ep]; omega)
      rw [ep] at ih
      rw [nums_end_one, show p.length + 9 + (grp 0 (t.drop 8)).length = p.length + (grp 0 t).length by omega] at ih
      refine Ev.step (fun k => ?_) ih
      rw [rtext_more s x p.length hz (by omega) hx hc k, hm]
/-! ### Numbers -/
def tr (c b : Int) : Int := if c < 128 then 255 - b else b
def finR (c : Int) (K : Nat) (v : Int) : RP := if v > 9223372036854775807 then zeroR else if c < 128 then (1, wrap64 ((-1) - (wrap64 v)), emp, ((K + 1 : Nat) : Int)) else (1, wrap64 v, emp, ((K + 1 : Nat) : Int))
theorem rpart_loop (s : ByteArray) (c : Int) (K : Nat) (hK : K ≤ 8) (hs : K + 1 ≤ s.size) : ∀ (d i m : Nat), i + d = K → m < 256 ^ i →
    Ev (fun k => klaxonref07_part.l1 k s c (K : Int) (m : Int) ((1 + i : Nat) : Int)) (finR c K (valF (m : Int) ((((bytesOf s).drop (1 + i)).take d).map (tr c))))
  | 0, i, m, h, hm => by
    refine Ev.step (fun k => ?_) (Ev.now _)
    rw [klaxonref07_part.l1, if_neg (by omega), show wrap64 ((K : Int) + 1) = ((K + 1 : Nat) : Int) by unfold wrap64; omega]
    simp only [List.take_zero, List.map_nil, valF]
    unfold finR
    by_cases h1 : (m : Int) > 9223372036854775807
    · rw [if_pos h1, if_pos h1]; rfl
    · rw [if_neg h1, if_neg h1]
      by_cases h2 : c < 128
      · rw [if_pos h2, if_pos h2]; rfl
      · rw [if_neg h2, if_neg h2]; rfl
  | d + 1, i, m, h, hm => by
    have e4 : wrap64 (((1 + i : Nat) : Int) + 1) = ((1 + (i + 1) : Nat) : Int) := by unfold wrap64; omega
    have hlen : 1 + i < (bytesOf s).length := by rw [bytesOf_length]; omega
    have hd : (bytesOf s).drop (1 + i) = (bytesOf s)[1 + i] :: (bytesOf s).drop (1 + (i + 1)) := by
      rw [List.drop_eq_getElem_cons hlen]; congr 1
    have hb : bt s ((1 + i : Nat) : Int) = (bytesOf s)[1 + i] := by rw [bt_get, List.getD_eq_getElem?_getD, List.getElem?_eq_getElem hlen]; rfl
    have hr := bt_range s ((1 + i : Nat) : Int)
    rw [hb] at hr
    have hm7 : m < 72057594037927936 := Nat.lt_of_lt_of_le hm (show 256 ^ i ≤ 256 ^ 7 from Nat.pow_le_pow_right (by omega) (by omega))
    have ht : 0 ≤ tr c (bytesOf s)[1 + i] ∧ tr c (bytesOf s)[1 + i] < 256 := by unfold tr; split <;> omega
    have ho := or_byte m (tr c (bytesOf s)[1 + i]) hm7 ht.1 ht.2
    have ih := rpart_loop s c K hK hs d (i + 1) (m * 256 + (tr c (bytesOf s)[1 + i]).toNat) (by omega) (by rw [Nat.pow_succ]; omega)
    rw [hd, List.take_succ_cons, List.map_cons, valF, show (m : Int) * 256 + tr c (bytesOf s)[1 + i] = ((m * 256 + (tr c (bytesOf s)[1 + i]).toNat : Nat) : Int) by omega]
    refine Ev.step (fun k => ?_) ih
    rw [klaxonref07_part.l1, if_pos (by omega), if_pos (by omega), if_pos (by omega), hb, e4, ← ho]
    unfold tr
    by_cases h2 : c < 128
    · rw [if_pos h2, if_pos h2]
      congr 2
      rw [wrap_u64]; omega
    · rw [if_neg h2, if_neg h2]
theorem finR_good (s : ByteArray) (c : Int) (K : Nat) (v : Int) (h : K + 1 ≤ s.size) : Good s (finR c K v) := by
  unfold finR
  split
  · exact good_zero s
  · split
    · exact ⟨by show (0 : Int) ≤ ((K + 1 : Nat) : Int); omega, by show ((K + 1 : Nat) : Int) ≤ _; omega, wrap64_i64 _⟩
    · exact ⟨by show (0 : Int) ≤ ((K + 1 : Nat) : Int); omega, by show ((K + 1 : Nat) : Int) ≤ _; omega, wrap64_i64 _⟩
theorem rnum_at (s : ByteArray) (c : Int) (K : Nat) (hz : s.size ≤ 100000) (h0 : 0 < s.size) (hs : K + 1 ≤ s.size) (hK : K ≤ 8) : Ev (fun k => klaxonref07_part.j1 k s c (K : Int)) (finR c K (valF 0 ((((bytesOf s).drop 1).take K).map (tr c)))) := by
  have loop := rpart_loop s c K hK hs K 0 0 (by omega) (by omega)
  refine Ev.step (f := fun k => klaxonref07_part.j2 k s c (K : Int) false) (fun k => ?_) (Ev.step (fun k => ?_) loop)
  · rw [klaxonref07_part.j1, if_neg (by omega), decide_eq_false]
    unfold wrap64; omega
  · rw [klaxonref07_part.j2, if_neg (by simp)]; rfl
theorem rnum_total (s : ByteArray) (c : Int) (K : Nat) (hz : s.size ≤ 100000) (h0 : 0 < s.size) : ∃ r, Ev (fun k => klaxonref07_part.j1 k s c (K : Int)) r ∧ Good s r := by
  by_cases hK : K ≤ 8
  · by_cases hs : K + 1 ≤ s.size
    · exact ⟨_, rnum_at s c K hz h0 hs hK, finR_good s c K _ hs⟩
    · refine ⟨zeroR, Ev.step (f := fun k => klaxonref07_part.j2 k s c (K : Int) true) (fun k => ?_) (Ev.step (fun k => ?_) (Ev.now _)), good_zero s⟩
      · rw [klaxonref07_part.j1, if_neg (by omega), decide_eq_true]
        unfold wrap64; omega
      · rw [klaxonref07_part.j2, if_pos rfl]; rfl
  · refine ⟨zeroR, Ev.step (f := fun k => klaxonref07_part.j2 k s c (K : Int) true) (fun k => ?_) (Ev.step (fun k => ?_) (Ev.now _)), good_zero s⟩
    · rw [klaxonref07_part.j1, if_pos (by omega)]
    · rw [klaxonref07_part.j2, if_pos rfl]; rfl
theorem rpart_num (s : ByteArray) (h0 : 0 < s.size) (hc : bt s 0 ≠ 160) {v : RP} (h : Ev (fun k => klaxonref07_part.j1 k s (bt s 0) ((follow (bt s 0) : Nat) : Int)) v) : Ev (fun k => klaxonref07_part.f k s) v := by
  have hb := bt_range s 0
  refine Ev.congr (fun k => ?_) h
  rw [klaxonref07_part.f, wbt, if_pos (by omega), if_neg hc]
  unfold follow
  by_cases h1 : bt s 0 < 128
  · rw [if_pos h1, if_pos h1]
    congr 1
    unfold wrap64; omega
  · rw [if_neg h1, if_neg h1]
    congr 1
    unfold wrap64; omega
theorem rpart_txt (s : ByteArray) (h0 : 0 < s.size) (hc : bt s 0 = 160) {v : RP} (h : Ev (fun k => klaxonref07_part.l0 k s emp ((1 : Nat) : Int)) v) : Ev (fun k => klaxonref07_part.f k s) v := by
  refine Ev.congr (fun k => ?_) h
  rw [klaxonref07_part.f, wbt, if_pos (by omega), if_pos hc]; rfl
theorem rpart_total (s : ByteArray) (hz : s.size ≤ 100000) (h0 : 0 < s.size) : ∃ r, Ev (fun k => klaxonref07_part.f k s) r ∧ Good s r := by
  by_cases hc : bt s 0 = 160
  · obtain ⟨r, hr, hg⟩ := rtext_total s hz (s.size + 1) 1 emp (by omega) (by show 0 ≤ 1; omega) (by omega)
    exact ⟨r, rpart_txt s h0 hc hr, hg⟩
  · obtain ⟨r, hr, hg⟩ := rnum_total s (bt s 0) (follow (bt s 0)) hz h0
    exact ⟨r, rpart_num s h0 hc hr, hg⟩
theorem rpart_exact {p : S34} (he : errP p = 0) (hw : I64 p.f1) (y : List Int) (s : ByteArray) (hz : s.size ≤ 100000) (h : bytesOf s = partB p ++ y) : Ev (fun k => klaxonref07_part.f k s) (p.f0, p.f1, p.f2, (((partB p).length : Nat) : Int)) := by
  rcases part_cases he with ⟨hp, hb⟩ | ⟨hp, hb, _⟩
  · rw [hb] at h ⊢
    have hm := mag_lt hw
    have hm2 : mag p.f1 < 18446744073709551616 := by omega
    have hb8 := nb_le8 hm2
    have hlt := nb_lt hm2
    have hv := val_be (nb (mag p.f1)) (mag p.f1) 0
    rw [Nat.zero_mul, Nat.zero_add, Nat.mod_eq_of_lt hlt] at hv
    have hv' : valF 0 (be (nb (mag p.f1)) (mag p.f1)) = ((mag p.f1 : Nat) : Int) := hv
    have e0 : p.f0 = 1 := by rw [hp]
    have e2 : p.f2 = emp := by rw [hp]
    by_cases h0 : p.f1 < 0
    · have hN : numB p.f1 = (127 - (nb (mag p.f1) : Int)) :: (be (nb (mag p.f1)) (mag p.f1)).map (255 - ·) := by unfold numB; rw [if_pos h0]
      rw [hN, List.cons_append] at h
      have hc := bt_zero h
      have hsz := size_cons h
      rw [List.length_append, List.length_map, be_length] at hsz
      have hf : follow (bt s 0) = nb (mag p.f1) := by rw [hc]; unfold follow; rw [if_pos (by omega)]; omega
      refine rpart_num s (by omega) (by omega) ?_
      rw [hf]
      have := rnum_at s (bt s 0) (nb (mag p.f1)) hz (by omega) (by omega) hb8
      rw [h, List.drop_succ_cons, List.drop_zero, List.take_left' (by rw [List.length_map, be_length])] at this
      have hmap : ((be (nb (mag p.f1)) (mag p.f1)).map (255 - ·)).map (tr (bt s 0)) = be (nb (mag p.f1)) (mag p.f1) := by
        rw [List.map_map]
        conv => rhs; rw [← List.map_id (be (nb (mag p.f1)) (mag p.f1))]
        refine List.map_congr_left fun b _ => ?_
        show tr (bt s 0) (255 - b) = b
        unfold tr
        rw [if_pos (by omega)]; omega
      rw [hmap, hv'] at this
      unfold finR at this
      rw [if_neg (by omega), if_pos (by omega)] at this
      rw [hN, List.length_cons, List.length_map, be_length, e0, e2]
      rw [mag_neg hw h0] at this
      exact this
    · have hN : numB p.f1 = (128 + (nb (mag p.f1) : Int)) :: be (nb (mag p.f1)) (mag p.f1) := by unfold numB; rw [if_neg h0]
      rw [hN, List.cons_append] at h
      have hc := bt_zero h
      have hsz := size_cons h
      rw [List.length_append, be_length] at hsz
      have hf : follow (bt s 0) = nb (mag p.f1) := by rw [hc]; unfold follow; rw [if_neg (by omega)]; omega
      refine rpart_num s (by omega) (by omega) ?_
      rw [hf]
      have := rnum_at s (bt s 0) (nb (mag p.f1)) hz (by omega) (by omega) hb8
      rw [h, List.drop_succ_cons, List.drop_zero, List.take_left' (be_length _ _)] at this
      have hmap : (be (nb (mag p.f1)) (mag p.f1)).map (tr (bt s 0)) = be (nb (mag p.f1)) (mag p.f1) := by
        conv => rhs; rw [← List.map_id (be (nb (mag p.f1)) (mag p.f1))]
        refine List.map_congr_left fun b _ => ?_
        show tr (bt s 0) b = b
        unfold tr
        rw [if_neg (by omega)]
      rw [hmap, hv'] at this
      unfold finR at this
      rw [if_neg (by omega), if_neg (by omega)] at this
      rw [hN, List.length_cons, be_length, e0, e2]
      rw [mag_pos hw h0] at this
      exact this
  · rw [hb] at h ⊢
    rw [txtB, List.cons_append] at h
    have hc := bt_zero h
    have hsz := size_cons h
    have e0 : p.f0 = 2 := by rw [hp]
    have e1 : p.f1 = 0 := by rw [hp]
    have := rtext_exact s hz ((bytesOf p.f2).length + 1) [160] (bytesOf p.f2) y emp (by omega) (bytesOf_bytes _) (by rw [h]; rfl) (by show 0 ≤ _; omega)
    refine rpart_txt s (by omega) hc ?_
    rw [e0, e1, txtB, List.length_cons]
    have ee : emp ++ strOfNums (bytesOf p.f2) = p.f2 := text_ext (by rw [bytesOf_append, nums_bytesOf]; rfl)
    rw [ee, List.length_singleton, Nat.add_comm 1] at this
    exact this
/-! ### The whole text -/
theorem rget_total (s : ByteArray) (hz : s.size ≤ 100000) : ∀ (n i : Nat) (l : List S34), s.size < i + n → i ≤ s.size → l.length ≤ i → Wf l → ∃ r, Ev (fun k => klaxonref07_Get.l0 k s l (i : Int)) r ∧ (r = ([], 70) ∨ ∃ l, r = (l, 0) ∧ Wf l ∧ putE l = 0 ∧ putS l = s)
  | 0, i, l, hn, hi, hl, hw => by omega
  | n + 1, i, l, hn, hi, hl, hw => by
    by_cases h : i < s.size
    · have esz : (s.extract i s.size).size = s.size - i := by simp
      obtain ⟨r, hr, g0, g1, g2⟩ := rpart_total (s.extract i s.size) (by omega) (by omega)
      have step : ∀ k, klaxonref07_Get.l0 (k + 1) s l (i : Int) = ((klaxonref07_part.f k (s.extract i s.size)).bind fun bt275 => (if bt275.2.2.2 = 0 then (some (([] : List (S34)), 70)) else (if l.length < 4398046511104 then (klaxonref07_Get.l0 k s (l ++ [(⟨bt275.1, bt275.2.1, bt275.2.2.1⟩ : S34)]) (wrap64 ((i : Int) + bt275.2.2.2))) else (none)))) := by
        intro k
        rw [klaxonref07_Get.l0, if_pos (by omega), if_pos (by omega), if_pos (by omega), Int.toNat_natCast]
      by_cases hu : r.2.2.2 = 0
      · refine ⟨([], 70), Ev.step step (Ev.bind hr (Ev.congr (fun k => ?_) (Ev.now _))), .inl rfl⟩
        rw [if_pos hu]
      · rw [esz] at g1
        obtain ⟨v, hv, hc⟩ := rget_total s hz n (i + r.2.2.2.toNat) (l ++ [⟨r.1, r.2.1, r.2.2.1⟩]) (by omega) (by omega) (by rw [List.length_append, List.length_singleton]; omega) (scan_wf_append hw (fun q hq => by
          rw [List.mem_singleton] at hq; subst hq; exact g2))
        refine ⟨v, Ev.step step (Ev.bind hr (Ev.congr (fun k => ?_) hv)), hc⟩
        rw [if_neg hu, if_pos (by omega)]
        congr 1
        unfold wrap64; omega
    · have step : ∀ k, klaxonref07_Get.l0 (k + 1) s l (i : Int) = ((klaxonref07_Put.f k l).bind fun bt283 => (if bt283.2 = 0 then (if bt283.1.toList = s.toList then (some (l, 0)) else (some (([] : List (S34)), 70))) else (some (([] : List (S34)), 70)))) := by
        intro k
        rw [klaxonref07_Get.l0, if_neg (by omega)]
      by_cases he : putE l = 0
      · by_cases hs : putS l = s
        · refine ⟨(l, 0), Ev.step step (Ev.bind (rput_tells l hw) (Ev.congr (fun k => ?_) (Ev.now _))), .inr ⟨l, rfl, hw, he, hs⟩⟩
          rw [if_pos he, if_pos ((toList_eq _ _).2 hs)]
        · refine ⟨([], 70), Ev.step step (Ev.bind (rput_tells l hw) (Ev.congr (fun k => ?_) (Ev.now _))), .inl rfl⟩
          rw [if_pos he, if_neg (fun e => hs ((toList_eq _ _).1 e))]
      · refine ⟨([], 70), Ev.step step (Ev.bind (rput_tells l hw) (Ev.congr (fun k => ?_) (Ev.now _))), .inl rfl⟩
        rw [if_neg he]
theorem rget_exact (s : ByteArray) (hz : s.size ≤ 100000) (l : List S34) (hw : Wf l) (he : putE l = 0) (hs : putS l = s) : ∀ (r m : List S34) (p : List Int), m ++ r = l → bytesOf s = p ++ encL r → m.length ≤ p.length → Ev (fun k => klaxonref07_Get.l0 k s m (p.length : Int)) (l, 0)
  | [], m, p, hm, hb, hp => by
    rw [List.append_nil] at hm
    subst hm
    have hlen : s.size = p.length := by rw [size_bytes, hb, encL, List.append_nil]
    refine Ev.step (f := fun k => ((klaxonref07_Put.f k m).bind fun bt283 => (if bt283.2 = 0 then (if bt283.1.toList = s.toList then (some (m, 0)) else (some (([] : List (S34)), 70))) else (some (([] : List (S34)), 70))))) (fun k => ?_) (Ev.bind (rput_tells m hw) (Ev.congr (fun k => ?_) (Ev.now _)))
    · rw [klaxonref07_Get.l0, if_neg (by omega)]
    · rw [if_pos he, if_pos ((toList_eq _ _).2 hs)]
  | q :: r, m, p, hm, hb, hp => by
    have hq : q ∈ l := by rw [← hm]; simp
    have eq := scan_mem (ok_of hw he).1.1 hq
    have wq := hw q hq
    have hlong := partB_long q
    rw [encL] at hb
    have hlen : s.size = p.length + ((partB q).length + (encL r).length) := by rw [size_bytes, hb, List.length_append, List.length_append]
    have hx : bytesOf (s.extract p.length s.size) = partB q ++ encL r := by rw [extract_bytes, hb, List.drop_left' rfl]
    have esz : (s.extract p.length s.size).size = s.size - p.length := by simp
    have hr := rpart_exact eq wq (encL r) _ (by omega) hx
    have ih := rget_exact s hz l hw he hs r (m ++ [q]) (p ++ partB q) (by rw [List.append_assoc]; exact hm) (by rw [hb, List.append_assoc]) (by rw [List.length_append, List.length_append, List.length_singleton]; omega)
    refine Ev.step (f := fun k => ((klaxonref07_part.f k (s.extract p.length s.size)).bind fun bt275 => (if bt275.2.2.2 = 0 then (some (([] : List (S34)), 70)) else (if m.length < 4398046511104 then (klaxonref07_Get.l0 k s (m ++ [(⟨bt275.1, bt275.2.1, bt275.2.2.1⟩ : S34)]) (wrap64 ((p.length : Int) + bt275.2.2.2))) else (none))))) (fun k => ?_) (Ev.bind hr (Ev.congr (fun k => ?_) ih))
    · rw [klaxonref07_Get.l0, if_pos (by omega), if_pos (by omega), if_pos (by omega), Int.toNat_natCast]
    · rw [if_neg (by show ¬ (((partB q).length : Nat) : Int) = 0; omega), if_pos (by omega), List.length_append]
      congr 1
      show wrap64 ((p.length : Int) + (((partB q).length : Nat) : Int)) = _
      unfold wrap64; omega
theorem rget_tells (s : ByteArray) (hz : s.size ≤ 100000) : Ev (fun k => klaxonref07_Get.f k s) (getS s) := by
  rcases getS_cases s with ⟨l, hg, hw, he, hs⟩ | ⟨hg, hno⟩
  · rw [hg]
    exact rget_exact s hz l hw he hs l [] [] rfl (by rw [← hs, bytes_put hw he]; rfl) (Nat.le_refl _)
  · rw [hg]
    obtain ⟨r, hr, hc⟩ := rget_total s hz (s.size + 1) 0 [] (by omega) (by omega) (Nat.le_refl _) (fun p hp => by cases hp)
    rcases hc with rfl | ⟨l, _, hw, he, hs⟩
    · exact hr
    · exact absurd hs (hno l hw he)
theorem nope_put {l : List S34} (h : putE l ≠ 0) : putS l = emp := by unfold putS; rw [if_neg h]
theorem getS_short (s : ByteArray) : (getS s).1.length ≤ 8 := by
  rcases getS_cases s with ⟨l, hg, hw, he, _⟩ | ⟨hg, _⟩
  · rw [hg]; exact (ok_of hw he).2.2
  · rw [hg]; exact Nat.zero_le _
/-- The end of the range, as the reference has it. -/
def endS (l : List S34) : ByteArray := if putE l = 0 then putS l ++ (⟨#[255]⟩ : ByteArray) else putS l
theorem puts_last (l : List S34) (s : ByteArray) (n : Int) : Ev (fun k => klaxonlaw07_KeysPuts.j1 k s n (putS l) (putE l) (putS l) (putE l) (getS s).1 (getS s).2 (getS s).1 (getS s).2 (upS l).1 (upS l).2.1 (upS l).2.2 (endS l)) true := by
  have u1 : (upS l).1 = putS l := by
    unfold upS
    by_cases h : putE l = 0
    · rw [if_pos h]
    · rw [if_neg h, nope_put h]
  have u2 : (upS l).2.1 = endS l := by
    unfold upS endS
    by_cases h : putE l = 0
    · rw [if_pos h, if_pos h]
    · rw [if_neg h, if_neg h, nope_put h]
  have u3 : (upS l).2.2 = putE l := by
    unfold upS
    by_cases h : putE l = 0
    · rw [if_pos h, h]
    · rw [if_neg h]
  rw [u1, u2, u3]
  have e0 : ((⟨#[]⟩ : ByteArray).toList == ([] : List UInt8)) = true := by rw [beq_iff_eq]; exact (emp_iff _).2 rfl
  have step : ∀ k, klaxonlaw07_KeysPuts.j1 (k + 1) s n (putS l) (putE l) (putS l) (putE l) (getS s).1 (getS s).2 (getS s).1 (getS s).2 (putS l) (endS l) (putE l) (endS l) = ((klaxonref07_Same.f k (getS s).1 (getS s).1).bind fun t317 => (if t317 = true then ((klaxonlaw07_live.f k).bind fun t326 => (some t326)) else (some false))) := by
    intro k
    have b1 : ((1 : Int) == 1 && (n == n && ((⟨#[]⟩ : ByteArray).toList == ([] : List UInt8)))) = true := by rw [e0]; simp
    have b2 : ((2 : Int) == 2 && ((0 : Int) == 0 && (s.toList == s.toList))) = true := by simp
    rw [klaxonlaw07_KeysPuts.j1]
    simp only [klaxonlaw07_num.f, keys_Int.f, keys_Text.f, Option.bind_some, if_true, b1, b2]
  exact Ev.step step (Ev.bind (f := fun k t317 => (if t317 = true then ((klaxonlaw07_live.f k).bind fun t326 => (some t326)) else (some false))) (same_yes _ (by have := getS_short s; omega)) (Ev.congr (fun k => by rw [if_pos rfl]) live_some))
theorem puts_end (l : List S34) (hw : Wf l) (hl : l.length ≤ 20) (s : ByteArray) (hs : s.size ≤ 8000) (n : Int) : Ev (fun k => klaxonlaw07_KeysPuts.j0 k l s n false) true := by
  have step : ∀ k, klaxonlaw07_KeysPuts.j0 (k + 1) l s n false = ((keys_Put.f k l).bind fun bt295 => ((klaxonref07_Put.f k l).bind fun bt297 => ((keys_Get.f k s).bind fun bt299 => ((klaxonref07_Get.f k s).bind fun bt303 => ((keys_Range.f k l).bind fun bt313 => (if bt297.2 = 0 then (if bt297.1.size + 1 ≤ 9223372036854775807 then (klaxonlaw07_KeysPuts.j1 k s n bt295.1 bt295.2 bt297.1 bt297.2 bt299.1 bt299.2 bt303.1 bt303.2 bt313.1 bt313.2.1 bt313.2.2 (bt297.1 ++ (⟨#[255]⟩ : ByteArray))) else (none)) else (klaxonlaw07_KeysPuts.j1 k s n bt295.1 bt295.2 bt297.1 bt297.2 bt299.1 bt299.2 bt303.1 bt303.2 bt313.1 bt313.2.1 bt313.2.2 bt297.1))))))) := by
    intro k
    have hlt : l.length < 4398046511104 := by omega
    simp only [klaxonlaw07_KeysPuts.j0, Option.bind_some, List.nil_append, List.length_nil, Nat.zero_add, hlt, if_true]
    rfl
  have last := puts_last l s n
  refine Ev.step step (Ev.bind (put_tells _ hw) (Ev.bind (rput_tells _ hw) (Ev.bind (get_tells s (by omega)) (Ev.bind (rget_tells s (by omega)) (Ev.bind (range_tells l hw) ?_)))))
  by_cases he : putE l = 0
  · have hz := putS_short hw he
    have hE : endS l = putS l ++ (⟨#[255]⟩ : ByteArray) := if_pos he
    rw [hE] at last
    refine Ev.congr (fun k => ?_) last
    rw [if_pos he, if_pos (by show (putS l).size + 1 ≤ _; omega)]
  · have hE : endS l = putS l := if_neg he
    rw [hE] at last
    refine Ev.congr (fun k => ?_) last
    rw [if_neg he]
theorem puts_law (l : List S34) (s : ByteArray) (n : Int) (hw : Wf l) : Ev (fun k => klaxonlaw07_KeysPuts.f k l s n) true := by
  have ht : Ev (fun k => klaxonlaw07_KeysPuts.j0 k l s n true) true := by
    refine Ev.step (fun k => ?_) live_some
    simp only [klaxonlaw07_KeysPuts.j0, if_true]
  obtain ⟨c, hc, hl⟩ := small_tells l
  refine Ev.bind (f := fun k t287 => (if t287 = true then (klaxonlaw07_KeysPuts.j0 k l s n (decide ((s.size : Int) > 8000))) else (klaxonlaw07_KeysPuts.j0 k l s n true))) hc ?_
  cases c with
  | false => exact Ev.congr (fun k => by rw [if_neg (by simp)]) ht
  | true =>
    by_cases h : (s.size : Int) > 8000
    · exact Ev.congr (fun k => by rw [if_pos rfl, decide_eq_true h]) ht
    · exact Ev.congr (fun k => by rw [if_pos rfl, decide_eq_false h]) (puts_end l hw (hl rfl) s (by omega) n)
end Go.Proofs.Ytephhhflifjcmaa.M
