/- Plain law: keys are in the order of what they are made of; what a key begins with. -/
import Derived.Test.YtephhhflifjcmaaNDec
import Derived.Test.YtephhhflifjcmaaNLive
import Derived.Test.YtephhhflifjcmaaGCmp
import Derived.Test.YtephhhflifjcmaaGBeg
set_option linter.unusedVariables false
set_option linter.unusedSimpArgs false
namespace Go.Proofs.Ytephhhflifjcmaa.M
open Go.RowKit Go.Proofs.Ytephhhflifjcmaa.K Go.Proofs.YtephhhflifjcmaaW.PrintWords Go.Proofs.YtephhhflifjcmaaW.PrintLast

theorem dcmp_map (u v : List Int) : dcmp (u.map (255 - ·)) (v.map (255 - ·)) = - dcmp u v := by
  induction u generalizing v with
  | nil => cases v <;> rfl
  | cons a u ih =>
    cases v with
    | nil => rfl
    | cons b v =>
      simp only [List.map_cons, dcmp, ih]
      by_cases h1 : a < b
      · have h2 : ¬ (255 - a < 255 - b) := by omega
        have h3 : 255 - b < 255 - a := by omega
        simp [h1, h2, h3]
      · by_cases h2 : b < a
        · have h3 : 255 - a < 255 - b := by omega
          simp [h1, h2, h3]
        · have h3 : ¬ (255 - a < 255 - b) := by omega
          have h4 : ¬ (255 - b < 255 - a) := by omega
          simp [h1, h2, h3, h4]
theorem dcmp_num {a b : Int} (ha : I64 a) (hb : I64 b) : dcmp (numB a) (numB b) = cmpI a b := by
  have ma := mag_lt ha
  have mb := mag_lt hb
  have la := nb_lt (show mag a < 18446744073709551616 by omega)
  have lb := nb_lt (show mag b < 18446744073709551616 by omega)
  have m1 : mag a < mag b → nb (mag a) ≤ nb (mag b) := fun h => nb_mono h (by omega)
  have m2 : mag b < mag a → nb (mag b) ≤ nb (mag a) := fun h => nb_mono h (by omega)
  have m3 : mag a = mag b → nb (mag a) = nb (mag b) := fun h => by rw [h]
  have b1 := nb_le8 (show mag a < 18446744073709551616 by omega)
  have b2 := nb_le8 (show mag b < 18446744073709551616 by omega)
  unfold cmpI
  by_cases h1 : a < 0
  · by_cases h2 : b < 0
    · have e1 : mag a = (-1 - a).toNat := by unfold mag; rw [if_pos h1]
      have e2 : mag b = (-1 - b).toNat := by unfold mag; rw [if_pos h2]
      have n1 : numB a = (127 - (nb (mag a) : Int)) :: (be (nb (mag a)) (mag a)).map (255 - ·) := by unfold numB; rw [if_pos h1]
      have n2 : numB b = (127 - (nb (mag b) : Int)) :: (be (nb (mag b)) (mag b)).map (255 - ·) := by unfold numB; rw [if_pos h2]
      rw [n1, n2, dcmp]
      by_cases h3 : nb (mag a) = nb (mag b)
      · rw [if_neg (by omega), if_neg (by omega), dcmp_map, h3, dcmp_be, ← h3, Nat.mod_eq_of_lt la, h3, Nat.mod_eq_of_lt lb]
        by_cases h4 : a < b
        · rw [if_pos h4, if_neg (by omega), if_pos (by omega)]
        · by_cases h5 : b < a
          · rw [if_neg h4, if_pos h5, if_pos (by omega)]; rfl
          · rw [if_neg h4, if_neg h5, if_neg (by omega), if_neg (by omega)]; rfl
      · by_cases h4 : a < b
        · rw [if_pos h4, if_pos (by omega)]
        · rw [if_neg h4, if_pos (show b < a by omega), if_neg (show ¬ (127 - (nb (mag a) : Int) < 127 - (nb (mag b) : Int)) by omega), if_pos (show 127 - (nb (mag b) : Int) < 127 - (nb (mag a) : Int) by omega)]
    · have n1 : numB a = (127 - (nb (mag a) : Int)) :: (be (nb (mag a)) (mag a)).map (255 - ·) := by unfold numB; rw [if_pos h1]
      have n2 : numB b = (128 + (nb (mag b) : Int)) :: be (nb (mag b)) (mag b) := by unfold numB; rw [if_neg h2]
      rw [n1, n2, dcmp, if_pos (by omega), if_pos (by omega)]
  · by_cases h2 : b < 0
    · have n1 : numB a = (128 + (nb (mag a) : Int)) :: be (nb (mag a)) (mag a) := by unfold numB; rw [if_neg h1]
      have n2 : numB b = (127 - (nb (mag b) : Int)) :: (be (nb (mag b)) (mag b)).map (255 - ·) := by unfold numB; rw [if_pos h2]
      rw [n1, n2, dcmp, if_neg (by omega), if_pos (by omega), if_neg (by omega), if_pos (by omega)]
    · have e1 : mag a = a.toNat := by unfold mag; rw [if_neg h1]
      have e2 : mag b = b.toNat := by unfold mag; rw [if_neg h2]
      have n1 : numB a = (128 + (nb (mag a) : Int)) :: be (nb (mag a)) (mag a) := by unfold numB; rw [if_neg h1]
      have n2 : numB b = (128 + (nb (mag b) : Int)) :: be (nb (mag b)) (mag b) := by unfold numB; rw [if_neg h2]
      rw [n1, n2, dcmp]
      by_cases h3 : nb (mag a) = nb (mag b)
      · rw [if_neg (by omega), if_neg (by omega), h3, dcmp_be, ← h3, Nat.mod_eq_of_lt la, h3, Nat.mod_eq_of_lt lb]
        by_cases h4 : a < b
        · rw [if_pos h4, if_pos (by omega)]
        · by_cases h5 : b < a
          · rw [if_neg h4, if_pos h5, if_neg (by omega), if_pos (by omega)]
          · rw [if_neg h4, if_neg h5, if_neg (by omega), if_neg (by omega)]
      · by_cases h4 : a < b
        · rw [if_pos h4, if_pos (by omega)]
        · rw [if_neg h4, if_pos (show b < a by omega), if_neg (show ¬ (128 + (nb (mag a) : Int) < 128 + (nb (mag b) : Int)) by omega), if_pos (show 128 + (nb (mag b) : Int) < 128 + (nb (mag a) : Int) by omega)]
theorem head_num {a : Int} (ha : I64 a) : ∃ c l, numB a = c :: l ∧ c ≤ 136 := by
  have b1 := nb_le8 (show mag a < 18446744073709551616 by have := mag_lt ha; omega)
  unfold numB
  split
  · exact ⟨_, _, rfl, by omega⟩
  · exact ⟨_, _, rfl, by omega⟩
theorem dcmp_txt (s t : ByteArray) : dcmp (txtB s) (txtB t) = lcmp (bytesOf s) (bytesOf t) := by
  unfold txtB
  rw [dcmp, if_neg (by omega), if_neg (by omega), dcmp_grp _ _ 0 (by omega) (bytesOf_bytes s) (bytesOf_bytes t)]
theorem cmpI_self (a : Int) : cmpI a a = 0 := by unfold cmpI; rw [if_neg (by omega), if_neg (by omega)]
/-- Of two parts the bytes are in the parts' order, and decide it. -/
theorem dcmp_part {p q : S34} (hp : errP p = 0) (hq : errP q = 0) (wp : I64 p.f1) (wq : I64 q.f1) : dcmp (partB p) (partB q) = cmpP p q := by
  have le : lcmp (bytesOf emp) (bytesOf emp) = 0 := lcmp_self _
  rcases part_cases hp with ⟨h1, h2⟩ | ⟨h1, h2, _⟩ <;> rcases part_cases hq with ⟨h3, h4⟩ | ⟨h3, h4, _⟩
  · rw [h2, h4, dcmp_num wp wq, h1, h3]
    unfold cmpP
    simp only [cmpI_self, compareBytes_bytes, le]
    rw [if_neg (by simp)]
    by_cases hz : cmpI p.f1 q.f1 = 0
    · rw [if_neg (by rw [hz]; simp), hz]
    · rw [if_pos hz]
  · obtain ⟨c, l, hc, hl⟩ := head_num wp
    rw [h2, h4, hc, txtB, dcmp, if_pos (by omega), h1, h3]
    rfl
  · obtain ⟨c, l, hc, hl⟩ := head_num wq
    rw [h2, h4, hc, txtB, dcmp, if_neg (by omega), if_pos (by omega), h1, h3]
    rfl
  · rw [h2, h4, dcmp_txt, h1, h3]
    unfold cmpP
    simp only [cmpI_self, compareBytes_bytes]
    simp
theorem cmpP_self (p : S34) : cmpP p p = 0 := by
  unfold cmpP
  rw [cmpI_self, cmpI_self, compareBytes_bytes, lcmp_self]
  simp
theorem cmpI_zero {a b : Int} (h : cmpI a b = 0) : a = b := by
  unfold cmpI at h
  split at h
  · omega
  · split at h
    · omega
    · omega
theorem cmpP_zero {p q : S34} (h : cmpP p q = 0) : p = q := by
  unfold cmpP at h
  by_cases h1 : cmpI p.f0 q.f0 = 0
  · rw [if_neg (by simp [h1])] at h
    by_cases h2 : cmpI p.f1 q.f1 = 0
    · rw [if_neg (by simp [h2]), compareBytes_bytes] at h
      have e0 := cmpI_zero h1
      have e1 := cmpI_zero h2
      have e2 := text_ext (lcmp_zero _ _ h)
      cases p; cases q
      simp only at e0 e1 e2
      rw [e0, e1, e2]
    · rw [if_pos h2] at h; exact absurd h h2
  · rw [if_pos h1] at h; exact absurd h h1
/-- Whether a list's parts may all be parts. -/
def Ok (l : List S34) : Prop := scan l = 0 ∧ Wf l
theorem Ok.cons {p : S34} {l : List S34} (h : Ok (p :: l)) : errP p = 0 ∧ I64 p.f1 ∧ Ok l :=
  ⟨(scan_cons h.1).1, h.2 p List.mem_cons_self, (scan_cons h.1).2, fun q hq => h.2 q (List.mem_cons_of_mem _ hq)⟩
theorem lcmp_parts {p q : S34} (hp : errP p = 0) (hq : errP q = 0) (wp : I64 p.f1) (wq : I64 q.f1) (hne : p ≠ q) (x y : List Int) : lcmp (partB p ++ x) (partB q ++ y) = cmpP p q ∧ cmpP p q ≠ 0 := by
  have h := dcmp_part hp hq wp wq
  have h0 : cmpP p q ≠ 0 := fun h => hne (cmpP_zero h)
  exact ⟨by rw [lcmp_of_dcmp _ _ _ _ (by rw [h]; exact h0), h], h0⟩
theorem order_tells : ∀ {a b : List S34}, Ok a → Ok b → lcmp (encL a) (encL b) = cmpL a b
  | [], [], _, _ => rfl
  | [], q :: b, _, hb => by
    have := partB_long q
    rw [encL, encL]
    cases hq : partB q with
    | nil => rw [hq] at this; simp at this
    | cons c l => rfl
  | p :: a, [], ha, _ => by
    have := partB_long p
    rw [encL, encL]
    cases hq : partB p with
    | nil => rw [hq] at this; simp at this
    | cons c l => rfl
  | p :: a, q :: b, ha, hb => by
    obtain ⟨p1, p2, p3⟩ := ha.cons
    obtain ⟨q1, q2, q3⟩ := hb.cons
    rw [encL, encL, cmpL]
    by_cases h : p = q
    · subst h
      rw [cmpP_self, if_neg (by simp), lcmp_same, order_tells p3 q3]
    · obtain ⟨h1, h2⟩ := lcmp_parts p1 q1 p2 q2 h (encL a) (encL b)
      rw [if_pos h2, h1]
theorem prefix_of_enc : ∀ {m l : List S34} {z : List Int}, Ok m → Ok l → encL m ++ z = encL l → m <+: l
  | [], l, z, _, _, _ => List.nil_prefix
  | p :: m, [], z, hm, _, h => by
    have := partB_long p
    have h2 := congrArg List.length h
    rw [encL, encL, List.length_append, List.length_append, List.length_nil] at h2
    omega
  | p :: m, q :: l, z, hm, hl, h => by
    obtain ⟨p1, p2, p3⟩ := hm.cons
    obtain ⟨q1, q2, q3⟩ := hl.cons
    rw [encL, encL, List.append_assoc] at h
    by_cases he : p = q
    · subst he
      exact List.prefix_cons_inj p |>.2 (prefix_of_enc p3 q3 (List.append_cancel_left h))
    · obtain ⟨h1, h2⟩ := lcmp_parts p1 q1 p2 q2 he (encL m ++ z) (encL l)
      rw [h, lcmp_self] at h1
      exact absurd h1.symm h2
theorem enc_append : ∀ a b : List S34, encL (a ++ b) = encL a ++ encL b
  | [], b => rfl
  | p :: a, b => by rw [List.cons_append, encL, encL, enc_append a b, List.append_assoc]
theorem scan_append : ∀ a b : List S34, scan (a ++ b) = if scan a = 0 then scan b else scan a
  | [], b => by simp [scan]
  | p :: a, b => by
    rw [List.cons_append, scan, scan, scan_append a b]
    by_cases h : errP p = 0
    · rw [if_pos h, if_pos h]
    · rw [if_neg h, if_neg h, if_neg h]
theorem lcmp_nil : ∀ u : List Int, lcmp u [] ≠ -1
  | [] => by decide
  | _ :: _ => by simp [lcmp]
theorem lcmp_nil' {u v : List Int} (h : 0 < v.length) : lcmp u (u ++ v) = -1 := by
  conv => lhs; arg 1; rw [← List.append_nil u]
  rw [lcmp_same]
  cases v with
  | nil => simp at h
  | cons a v => rfl
/-- Parts behind what they begin with: their key lies behind it, and ahead of its end. -/
theorem begin_yes {w r : List S34} (hr : Ok r) : lcmp (encL (w ++ r)) (encL w) ≠ -1 ∧ lcmp (encL (w ++ r)) (encL w ++ [255]) = -1 := by
  rw [enc_append]
  constructor
  · have h := lcmp_same (encL w) (encL r) []
    rw [List.append_nil] at h
    rw [h]
    exact lcmp_nil _
  · rw [lcmp_same]
    cases r with
    | nil => rfl
    | cons p r =>
      obtain ⟨p1, p2, p3⟩ := hr.cons
      rw [encL]
      rcases part_cases p1 with ⟨h1, h2⟩ | ⟨h1, h2, _⟩
      · obtain ⟨c, l, hc, hl⟩ := head_num p2
        rw [h2, hc, List.cons_append, lcmp, if_pos (by omega)]
      · rw [h2, txtB, List.cons_append, lcmp, if_pos (by omega)]
theorem begin_no : ∀ {w a : List S34}, Ok w → Ok a → ¬ w <+: a → lcmp (encL a) (encL w) = -1 ∨ lcmp (encL a) (encL w ++ [255]) ≠ -1
  | [], a, _, _, h => absurd List.nil_prefix h
  | q :: w, [], hw, _, _ => by
    left
    have := partB_long q
    rw [encL, encL]
    cases hq : partB q with
    | nil => rw [hq] at this; simp at this
    | cons c l => rfl
  | q :: w, p :: a, hw, ha, h => by
    obtain ⟨q1, q2, q3⟩ := hw.cons
    obtain ⟨p1, p2, p3⟩ := ha.cons
    rw [encL, encL, List.append_assoc]
    by_cases he : p = q
    · subst he
      rw [lcmp_same, lcmp_same]
      exact begin_no q3 p3 (fun hp => h (List.prefix_cons_inj p |>.2 hp))
    · obtain ⟨h1, h2⟩ := lcmp_parts p1 q1 p2 q2 he (encL a) (encL w)
      obtain ⟨h3, _⟩ := lcmp_parts p1 q1 p2 q2 he (encL a) (encL w ++ [255])
      rw [h1, h3]
      by_cases hc : cmpP p q = -1
      · exact .inl hc
      · exact .inr hc
end Go.Proofs.Ytephhhflifjcmaa.M
