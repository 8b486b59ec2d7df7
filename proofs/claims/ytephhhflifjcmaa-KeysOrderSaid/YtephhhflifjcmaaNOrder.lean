/- Plain law of KeysOrder: of keys the order is their parts' order, and the key tells the parts. -/
import Derived.Test.YtephhhflifjcmaaNSmall
import Derived.Test.YtephhhflifjcmaaKx15
set_option linter.unusedVariables false
set_option linter.unusedSimpArgs false
namespace Go.Proofs.Ytephhhflifjcmaa.M
open Go.RowKit Go.Proofs.Ytephhhflifjcmaa.K Go.Proofs.YtephhhflifjcmaaW.PrintWords Go.Proofs.YtephhhflifjcmaaW.PrintLast
theorem cmpI_flip (a b : Int) : cmpI b a = - cmpI a b := by
  unfold cmpI
  by_cases h1 : a < b
  · rw [if_neg (by omega), if_pos h1, if_pos h1]; rfl
  · by_cases h2 : b < a
    · rw [if_pos h2, if_neg h1, if_pos h2]
    · rw [if_neg h2, if_neg h1, if_neg h1, if_neg h2]; rfl
theorem cmpP_flip (p q : S34) : cmpP q p = - cmpP p q := by
  unfold cmpP
  rw [compareBytes_bytes, compareBytes_bytes, cmpI_flip p.f0 q.f0, cmpI_flip p.f1 q.f1, lcmp_flip (bytesOf p.f2) (bytesOf q.f2)]
  by_cases h1 : cmpI p.f0 q.f0 = 0
  · rw [if_neg (show ¬ (-cmpI p.f0 q.f0 ≠ 0) by omega), if_neg (show ¬ (cmpI p.f0 q.f0 ≠ 0) by omega)]
    by_cases h2 : cmpI p.f1 q.f1 = 0
    · rw [if_neg (show ¬ (-cmpI p.f1 q.f1 ≠ 0) by omega), if_neg (show ¬ (cmpI p.f1 q.f1 ≠ 0) by omega)]
    · rw [if_pos (show -cmpI p.f1 q.f1 ≠ 0 by omega), if_pos h2]
  · rw [if_pos (show -cmpI p.f0 q.f0 ≠ 0 by omega), if_pos h1]
theorem cmpL_flip : ∀ a b : List S34, cmpL b a = - cmpL a b
  | [], [] => rfl
  | [], _ :: _ => rfl
  | _ :: _, [] => rfl
  | p :: a, q :: b => by
    rw [cmpL, cmpL, cmpP_flip p q]
    by_cases h : cmpP p q = 0
    · rw [if_neg (by omega), if_neg (by omega), cmpL_flip a b]
    · rw [if_pos (by omega), if_pos (by omega)]
theorem cmpL_self : ∀ a : List S34, cmpL a a = 0
  | [] => rfl
  | p :: a => by rw [cmpL, cmpP_self, if_neg (by simp), cmpL_self a]
/-- What the reference's loop tells of two parts. -/
def refLt (p q : S34) : Bool := if p.f0 < q.f0 then true else if p.f0 = q.f0 then (if p.f1 < q.f1 then true else Op.bytesLess p.f2.toList q.f2.toList) else false
theorem less_one (a b : ByteArray) : (Op.bytesLess a.toList b.toList = true) ↔ lcmp (bytesOf a) (bytesOf b) = -1 := by
  rw [bytesLess_bytes, decide_eq_true_iff]
theorem refLt_tells {p q : S34} (hp : errP p = 0) (hq : errP q = 0) : (refLt p q = true ∧ cmpP p q = -1) ∨ (refLt p q = false ∧ (p.f0 > q.f0 ∨ p.f1 > q.f1 ∨ Op.bytesLess q.f2.toList p.f2.toList = true) ∧ cmpP p q = 1) ∨ (refLt p q = false ∧ ¬ (p.f0 > q.f0) ∧ ¬ (p.f1 > q.f1) ∧ ¬ (Op.bytesLess q.f2.toList p.f2.toList = true) ∧ p = q) := by
  have key : ∀ s : ByteArray, lcmp (bytesOf s) (bytesOf s) = 0 := fun s => lcmp_self _
  rcases part_cases hp with ⟨h1, _⟩ | ⟨h1, _, _⟩ <;> rcases part_cases hq with ⟨g1, _⟩ | ⟨g1, _, _⟩ <;> rw [h1, g1]
  · -- two numbers
    have e : ∀ s : ByteArray, ¬ (Op.bytesLess s.toList s.toList = true) := fun s => by rw [less_one, key]; decide
    rcases Int.lt_trichotomy p.f1 q.f1 with h | h | h
    · refine .inl ⟨?_, ?_⟩
      · show (if (1 : Int) < 1 then true else if (1 : Int) = 1 then (if p.f1 < q.f1 then true else _) else false) = true
        rw [if_neg (by omega), if_pos rfl, if_pos h]
      · show (if cmpI 1 1 ≠ 0 then cmpI 1 1 else if cmpI p.f1 q.f1 ≠ 0 then cmpI p.f1 q.f1 else _) = (-1 : Int)
        have : cmpI p.f1 q.f1 = -1 := by unfold cmpI; rw [if_pos h]
        rw [cmpI_self, if_neg (by simp), if_pos (by omega), this]
    · refine .inr (.inr ⟨?_, by show ¬ ((1:Int) > 1); omega, by show ¬ (p.f1 > q.f1); omega, e emp, by rw [h]⟩)
      show (if (1 : Int) < 1 then true else if (1 : Int) = 1 then (if p.f1 < q.f1 then true else Op.bytesLess emp.toList emp.toList) else false) = false
      rw [if_neg (by omega), if_pos rfl, if_neg (by omega)]
      exact Bool.not_eq_true _ ▸ e emp
    · refine .inr (.inl ⟨?_, .inr (.inl h), ?_⟩)
      · show (if (1 : Int) < 1 then true else if (1 : Int) = 1 then (if p.f1 < q.f1 then true else Op.bytesLess emp.toList emp.toList) else false) = false
        rw [if_neg (by omega), if_pos rfl, if_neg (by omega)]
        exact Bool.not_eq_true _ ▸ e emp
      · show (if cmpI 1 1 ≠ 0 then cmpI 1 1 else if cmpI p.f1 q.f1 ≠ 0 then cmpI p.f1 q.f1 else _) = (1 : Int)
        have : cmpI p.f1 q.f1 = 1 := by unfold cmpI; rw [if_neg (by omega), if_pos h]
        rw [cmpI_self, if_neg (by simp), if_pos (by omega), this]
  · exact .inl ⟨rfl, rfl⟩
  · exact .inr (.inl ⟨rfl, .inl (by show (2:Int) > 1; omega), rfl⟩)
  · -- two texts
    have hc : cmpP ⟨2, 0, p.f2⟩ ⟨2, 0, q.f2⟩ = lcmp (bytesOf p.f2) (bytesOf q.f2) := by
      rw [← compareBytes_bytes]; rfl
    have hlt : refLt ⟨2, 0, p.f2⟩ ⟨2, 0, q.f2⟩ = Op.bytesLess p.f2.toList q.f2.toList := rfl
    rw [hc, hlt, bytesLess_bytes, less_one]
    rcases lcmp_range (bytesOf p.f2) (bytesOf q.f2) with h | h | h
    · exact .inl ⟨by rw [h]; rfl, h⟩
    · refine .inr (.inr ⟨by rw [h]; rfl, by show ¬ ((2:Int) > 2); omega, by show ¬ ((0:Int) > 0); omega, ?_, ?_⟩)
      · show ¬ lcmp (bytesOf q.f2) (bytesOf p.f2) = -1
        rw [lcmp_flip (bytesOf p.f2), h]; decide
      · rw [text_ext (lcmp_zero _ _ h)]
    · refine .inr (.inl ⟨by rw [h]; rfl, .inr (.inr ?_), h⟩)
      show lcmp (bytesOf q.f2) (bytesOf p.f2) = -1
      rw [lcmp_flip (bytesOf p.f2), h]
theorem scan_mem : ∀ {l : List S34} {p : S34}, scan l = 0 → p ∈ l → errP p = 0
  | q :: l, p, h, hp => by
    obtain ⟨h1, h2⟩ := scan_cons h
    rcases List.mem_cons.1 hp with rfl | hp
    · exact h1
    · exact scan_mem h2 hp
theorem rcmp_loop (a b : List S34) (ha : Ok a) (hb : Ok b) (la : a.length ≤ 4611686018427387904) : ∀ (d i : Nat), i + d = a.length → i ≤ b.length → Ev (fun k => klaxonref07_Compare.l0 k a b (i : Int)) (cmpL (a.drop i) (b.drop i))
  | d, i, hi, hib => by
    have stop : (a.length ≤ i ∨ b.length ≤ i) → Ev (fun k => klaxonref07_Compare.j1 k a b (i : Int) false) (cmpL (a.drop i) (b.drop i)) := by
      intro hs
      refine Ev.step (f := fun _ => some (cmpL (a.drop i) (b.drop i))) (fun k => ?_) (Ev.now _)
      rw [klaxonref07_Compare.j1, if_neg (by simp)]
      by_cases h1 : a.length = i
      · rw [List.drop_of_length_le (Nat.le_of_eq h1)]
        by_cases h2 : b.length = i
        · rw [List.drop_of_length_le (Nat.le_of_eq h2), if_neg (by omega), if_neg (by omega)]; rfl
        · have h3 := List.drop_eq_getElem_cons (l := b) (i := i) (by omega)
          rw [h3, if_pos (by omega)]; rfl
      · have h2 : b.length = i := by omega
        have h3 := List.drop_eq_getElem_cons (l := a) (i := i) (by omega)
        rw [List.drop_of_length_le (Nat.le_of_eq h2), h3, if_neg (by omega), if_pos (by omega)]; rfl
    by_cases h : i < a.length ∧ i < b.length
    · obtain ⟨h1, h2⟩ := h
      have ea := List.drop_eq_getElem_cons h1
      have eb := List.drop_eq_getElem_cons h2
      have ra := rd_at h1
      have rb := rd_at h2
      have pa := scan_mem ha.1 (List.getElem_mem h1)
      have pb := scan_mem hb.1 (List.getElem_mem h2)
      have hstep : ∀ k, klaxonref07_Compare.l0 (k + 1 + 1) a b (i : Int) = klaxonref07_Compare.j2 k a b (i : Int) (refLt a[i] b[i]) a[i].f0 a[i].f1 a[i].f2 b[i].f0 b[i].f1 b[i].f2 := by
        intro k
        rw [klaxonref07_Compare.l0, if_pos (by omega), decide_eq_true (by omega), klaxonref07_Compare.j1, if_pos rfl, if_pos (by omega), if_pos (by omega), if_pos (by omega), ra, rb]
        unfold refLt
        by_cases c0 : a[i].f0 < b[i].f0
        · rw [if_pos c0, if_pos c0]
        · rw [if_neg c0, if_neg c0]
          by_cases c1 : a[i].f0 = b[i].f0
          · rw [if_pos c1, if_pos c1]
            by_cases c2 : a[i].f1 < b[i].f1
            · rw [if_pos c2, if_pos c2]
            · rw [if_neg c2, if_neg c2]
          · rw [if_neg c1, if_neg c1]
      refine Ev.step (f := fun k => klaxonref07_Compare.l0 (k + 1) a b (i : Int)) (fun k => rfl) (Ev.step hstep ?_)
      rw [ea, eb, cmpL]
      rcases refLt_tells pa pb with ⟨r1, r2⟩ | ⟨r1, r2, r3⟩ | ⟨r1, r2, r3, r4, r5⟩
      · refine Ev.step (f := fun _ => some (-1)) (fun k => ?_) ?_
        · rw [r1, klaxonref07_Compare.j2, if_pos rfl]
        · rw [r2]; exact Ev.now _
      · refine Ev.step (f := fun _ => some 1) (fun k => ?_) ?_
        · rw [r1, klaxonref07_Compare.j2, if_neg (by simp)]
          by_cases c0 : a[i].f0 > b[i].f0
          · rw [if_pos c0]
          · rw [if_neg c0]
            by_cases c1 : a[i].f1 > b[i].f1
            · rw [if_pos c1]
            · rw [if_neg c1, if_pos ((r2.resolve_left c0).resolve_left c1)]
        · rw [r3]; exact Ev.now _
      · have hd : ∃ d', d = d' + 1 := ⟨d - 1, by omega⟩
        obtain ⟨d', rfl⟩ := hd
        refine Ev.step (f := fun k => klaxonref07_Compare.l0 k a b ((i + 1 : Nat) : Int)) (fun k => ?_) ?_
        · rw [r1, klaxonref07_Compare.j2, if_neg (by simp), if_neg r2, if_neg r3, if_neg r4]
          congr 1
          unfold wrap64; omega
        · rw [r5, cmpP_self, if_neg (by simp)]
          exact rcmp_loop a b ha hb la d' (i + 1) (by omega) (by omega)
    · refine Ev.step (f := fun k => klaxonref07_Compare.j1 k a b (i : Int) false) (fun k => ?_) (stop (by omega))
      rw [klaxonref07_Compare.l0]
      by_cases h1 : (i : Int) < (a.length : Int)
      · rw [if_pos h1, decide_eq_false (by omega)]
      · rw [if_neg h1]
termination_by d => d
theorem rcmp_tells {a b : List S34} (ha : Ok a) (hb : Ok b) (la : a.length ≤ 4611686018427387904) : Ev (fun k => klaxonref07_Compare.f k a b) (cmpL a b) := rcmp_loop a b ha hb la a.length 0 (by omega) (by omega)
theorem cmpL_range {a b : List S34} (ha : Ok a) (hb : Ok b) : cmpL a b = -1 ∨ cmpL a b = 0 ∨ cmpL a b = 1 := by rw [← order_tells ha hb]; exact lcmp_range _ _
theorem order_last {a b : List S34} (wa : Wf a) (wb : Wf b) (ea : putE a = 0) (eb : putE b = 0) : Ev (fun k => klaxonlaw07_KeysOrder.j3 k a b (putS a) (cmpL a b)) true := by
  have oa := (ok_of wa ea)
  have ob := (ok_of wb eb)
  have step : ∀ k, klaxonlaw07_KeysOrder.j3 (k + 1) a b (putS a) (cmpL a b) = ((keys_Get.f k (putS a)).bind fun bt375 => ((klaxonref07_Compare.f k a b).bind fun t381 => (if t381 = cmpL a b then (if bt375.2 = 0 then ((klaxonref07_Same.f k bt375.1 a).bind fun t383 => (if t383 = true then ((klaxonlaw07_live.f k).bind fun t384 => (some t384)) else (some false))) else (some false)) else (some false)))) := by
    intro k
    have hf : cmpL b a = wrap64 (-cmpL a b) := by
      rw [cmpL_flip a b]
      unfold wrap64
      rcases cmpL_range oa.1 ob.1 with h | h | h <;> rw [h] <;> rfl
    simp only [klaxonlaw07_KeysOrder.j3, keys_Compare.f, klaxonlaw07_num.f, Option.bind_some]
    congr 1
    funext x
    rw [if_pos trivial, if_pos hf]
  have hsz : (putS a).size < 4398046511104 := by
    rw [size_bytes, bytes_put wa ea]
    have : ∀ {l : List S34}, Ok l → (encL l).length ≤ 600 * l.length := by
      intro l
      induction l with
      | nil => intro _; simp [encL]
      | cons p l ih =>
        intro h
        obtain ⟨h1, h2, h3⟩ := h.cons
        have i3 := ih h3
        have hp : (partB p).length ≤ 600 := by
          rcases part_cases h1 with ⟨_, g2⟩ | ⟨_, g2, g3⟩
          · rw [g2]; have := numB_length h2; omega
          · rw [g2, txtB, List.length_cons]
            have := grp_length (bytesOf p.f2) 0
            rw [bytesOf_length] at this
            omega
        rw [encL, List.length_append, List.length_cons]
        omega
    have := this oa.1
    have := oa.2.2
    omega
  refine Ev.step step (Ev.bind (get_tells _ hsz) (Ev.bind (rcmp_tells oa.1 ob.1 (by have := oa.2.2; omega)) ?_))
  refine Ev.congr (fun k => ?_) (Ev.bind (f := fun k t383 => (if t383 = true then ((klaxonlaw07_live.f k).bind fun t384 => (some t384)) else (some false))) (same_yes a (by have := oa.2.2; omega)) (Ev.congr (fun k => by rw [if_pos rfl]) live_some))
  rw [if_pos rfl, getS_put wa ea, if_pos rfl]
theorem order_mid {a b : List S34} (wa : Wf a) (wb : Wf b) (ea : putE a = 0) (eb : putE b = 0) (x y : Int) : Ev (fun k => klaxonlaw07_KeysOrder.j1 k a b (putS a) x (putS b) y false) true := by
  have l1 := less_put wa wb ea eb
  have l2 := less_put wb wa eb ea
  have last := order_last wa wb ea eb
  have h2 : ∀ v, v = (if cmpL a b = -1 then -1 else 0) → Ev (fun k => klaxonlaw07_KeysOrder.j2 k a b (putS a) (putS b) v) true := by
    intro v hv
    refine Ev.step (f := fun k => klaxonlaw07_KeysOrder.j3 k a b (putS a) (cmpL a b)) (fun k => ?_) last
    rw [klaxonlaw07_KeysOrder.j2, l2, cmpL_flip a b]
    rcases cmpL_range (ok_of wa ea).1 (ok_of wb eb).1 with h | h | h
    · rw [h] at hv ⊢
      rw [if_neg (by decide), hv]; rfl
    · rw [h] at hv ⊢
      rw [if_neg (by decide), hv]; rfl
    · rw [h]
      rw [if_pos (by decide)]
  by_cases h : cmpL a b = -1
  · refine Ev.step (f := fun k => klaxonlaw07_KeysOrder.j2 k a b (putS a) (putS b) (-1)) (fun k => ?_) (h2 (-1) (by rw [if_pos h]))
    rw [klaxonlaw07_KeysOrder.j1, if_neg (by simp), l1, decide_eq_true h, if_pos rfl]
  · refine Ev.step (f := fun k => klaxonlaw07_KeysOrder.j2 k a b (putS a) (putS b) 0) (fun k => ?_) (h2 0 (by rw [if_neg h]))
    rw [klaxonlaw07_KeysOrder.j1, if_neg (by simp), l1, decide_eq_false h, if_neg (by simp)]
theorem order_end {a b : List S34} (wa : Wf a) (wb : Wf b) : Ev (fun k => klaxonlaw07_KeysOrder.j0 k a b false) true := by
  have step : ∀ k, klaxonlaw07_KeysOrder.j0 (k + 1) a b false = ((keys_Put.f k a).bind fun bt362 => ((keys_Put.f k b).bind fun bt364 => (if bt362.2 = 0 then (klaxonlaw07_KeysOrder.j1 k a b bt362.1 bt362.2 bt364.1 bt364.2 (bt364.2 != 0)) else (klaxonlaw07_KeysOrder.j1 k a b bt362.1 bt362.2 bt364.1 bt364.2 true)))) := by
    intro k
    simp only [klaxonlaw07_KeysOrder.j0]
    rw [if_neg (by simp)]
    rfl
  have nope : ∀ {l : List S34}, putE l ≠ 0 → (putS l).toList = ([] : List UInt8) := by
    intro l h
    unfold putS
    rw [if_neg h]
    exact (emp_iff _).2 rfl
  have bad : (putE a ≠ 0 ∨ putE b ≠ 0) → Ev (fun k => klaxonlaw07_KeysOrder.j1 k a b (putS a) (putE a) (putS b) (putE b) true) true := by
    intro h
    refine Ev.step (fun k => ?_) live_some
    simp only [klaxonlaw07_KeysOrder.j1, klaxonlaw07_num.f, Option.bind_some]
    rw [if_pos trivial]
    by_cases ea : putE a = 0
    · have eb := h.resolve_left (fun h => h ea)
      rw [if_pos ea, if_neg eb, if_pos (nope eb)]
    · rw [if_neg ea, if_pos (nope ea)]
      by_cases eb : putE b = 0
      · rw [if_pos eb]
      · rw [if_neg eb, if_pos (nope eb)]
  refine Ev.step step (Ev.bind (put_tells _ wa) (Ev.bind (put_tells _ wb) ?_))
  by_cases ea : putE a = 0
  · by_cases eb : putE b = 0
    · refine Ev.congr (fun k => ?_) (order_mid wa wb ea eb (putE a) (putE b))
      rw [if_pos ea]
      show klaxonlaw07_KeysOrder.j1 k a b (putS a) (putE a) (putS b) (putE b) (putE b != 0) = _
      rw [eb]; rfl
    · refine Ev.congr (fun k => ?_) (bad (.inr eb))
      rw [if_pos ea]
      show klaxonlaw07_KeysOrder.j1 k a b (putS a) (putE a) (putS b) (putE b) (putE b != 0) = _
      rw [bne_iff_ne.2 eb]
  · refine Ev.congr (fun k => ?_) (bad (.inl ea))
    rw [if_neg ea]
theorem order_law (a b : List S34) (wa : Wf a) (wb : Wf b) : Ev (fun k => klaxonlaw07_KeysOrder.f k a b) true := by
  have ht : Ev (fun k => klaxonlaw07_KeysOrder.j0 k a b true) true := by
    refine Ev.step (fun k => ?_) live_some
    simp only [klaxonlaw07_KeysOrder.j0, if_true]
  obtain ⟨c0, hc0, _⟩ := small_tells a
  obtain ⟨c1, hc1, l1⟩ := small_tells b
  refine Ev.bind (f := fun k t359 => (if t359 = true then ((klaxonlaw07_small.f k b).bind fun t360 => (klaxonlaw07_KeysOrder.j0 k a b (!t360))) else (klaxonlaw07_KeysOrder.j0 k a b true))) hc0 ?_
  cases c0 with
  | false => exact Ev.congr (fun k => by rw [if_neg (by simp)]) ht
  | true =>
    refine Ev.congr (fun k => by rw [if_pos rfl]) (Ev.bind (f := fun k t360 => (klaxonlaw07_KeysOrder.j0 k a b (!t360))) hc1 ?_)
    cases c1 with
    | false => exact ht
    | true => exact order_end wa wb
end Go.Proofs.Ytephhhflifjcmaa.M
