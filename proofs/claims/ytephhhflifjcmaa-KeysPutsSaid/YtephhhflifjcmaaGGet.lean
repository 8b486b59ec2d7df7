/- keys.Get in the printed form: the parts of a key, one behind the other; whether their key is the one that was given. -/
import Derived.Test.YtephhhflifjcmaaKx3
import Derived.Test.YtephhhflifjcmaaKx4
import Derived.Test.YtephhhflifjcmaaGTake
namespace Go.Proofs.Ytephhhflifjcmaa.K
open Go.RowKit Go.Proofs.YtephhhflifjcmaaW.PrintWords Go.Proofs.YtephhhflifjcmaaW.PrintLast Go.Proofs.YtephhhflifjcmaaW.PrintMore
set_option linter.unusedVariables false
set_option linter.unusedSimpArgs false
/-- One part from the front. -/
def keys_Get.take (k : Nat) (s : ByteArray) : Option (Int × Int × ByteArray × ByteArray × Bool) := if bt s 0 = 160 then keys_takeText.f s else keys_takeNumber.f k s
/-- The parts, and whether each could be taken. -/
def keys_Get.l0 : Nat → List S34 → ByteArray → Option (List S34 × Bool)
  | 0, _, _ => none
  | k + 1, l, s => if s.size = 0 then some (l, true) else
      (keys_Get.take k s).bind fun t => if t.2.2.2.2 = true then (if l.length < 4398046511104 then keys_Get.l0 k (l ++ [⟨t.1, t.2.1, t.2.2.1⟩]) t.2.2.2.1 else none) else some ([], false)
def keys_Get.f (k : Nat) (a0 : ByteArray) : Option (List S34 × Int) :=
  (keys_Get.l0 k [] a0).bind fun t => if t.2 = true then (keys_Put.f k t.1).bind fun u => if u.2 = 0 then (if u.1.toList = a0.toList then some (t.1, 0) else some ([], 70)) else some ([], 70) else some ([], 70)

theorem keys_Get.mono_t (s : ByteArray) (k : Nat) : LeO (keys_Get.take k s) (keys_Get.take (k + 1) s) := by
  unfold keys_Get.take
  exact LeO.ite (LeO.refl _) (keys_takeNumber.mono _ _)
theorem keys_Get.mono_l : ∀ k l s, LeO (keys_Get.l0 k l s) (keys_Get.l0 (k + 1) l s)
  | 0, l, s => fun r h => by simp [keys_Get.l0] at h
  | k + 1, l, s => by
    have ih := keys_Get.mono_l k
    unfold keys_Get.l0
    refine LeO.ite (LeO.refl _) (LeO.bind (keys_Get.mono_t _ _) (fun t => LeO.ite (LeO.ite (ih _ _) (LeO.none _)) (LeO.refl _)))
theorem keys_Get.mono : ∀ a0 k, LeO (keys_Get.f k a0) (keys_Get.f (k + 1) a0) := by
  intro a0 k
  unfold keys_Get.f
  refine LeO.bind (keys_Get.mono_l _ _ _) (fun t => LeO.ite (LeO.bind (keys_Put.mono _ _) (fun u => LeO.refl _)) (LeO.refl _))

set_option maxHeartbeats 4000000 in
set_option maxRecDepth 100000 in
theorem keys_Get.calls (k : Nat) (a0 : ByteArray) (r1 : List (S34)) (r2 : Int) (w : World) (h : keys_Get.f k a0 = some (r1, r2)) :
    Calls Try.prog 9 #[.string a0] w fun e w' => ∃ v0_ : Value, e = .returned (.tuple #[v0_, .int .i64 r2]) ∧ Kd.R k34 34 w' w.heap.size (fun _ => True) v0_ r1 ∧ Below w.heap.size w w' := by
  have hu34 := Try.underlying34
  obtain ⟨⟨l, ok⟩, hl, hf⟩ := Option.bind_eq_some_iff.1 h
  have HF := Aside0.mk hf
  have HL := Aside0.mk hl
  clear h hf hl
  go_enter Try.func9, Try.ntmps9
  go_wp2_with fail
  go_loopg [2, 4, 5] k (fun kq v2 v4 v5 w' => ∃ (x2 : List S34) (x4 : ByteArray), v4 = .string x4 ∧ Aside0 (keys_Get.l0 kq x2 x4 = some (l, ok)) ∧ Aside0 (kq ≤ k) ∧ Aside0 (Kd.R k34 34 w' w.heap.size (fun _ => True) v2 x2) ∧ Aside0 (Below w.heap.size w w'))
  case atStart => exact ⟨[], a0, rfl, HL, ⟨Nat.le_refl _⟩, ⟨Kd.R_nil _ _ _ _ _⟩, ⟨Below.refl _ _⟩⟩
  case round =>
    clear HL
    obtain ⟨x2, x4, rfl, HA, HK, HO, HB⟩ := hrel
    cases gk with
    | zero => exact absurd HA.out (by simp [keys_Get.l0])
    | succ k1 =>
      have H := HA.out
      clear HA
      simp only [keys_Get.l0] at H
      by_cases hz : x4.size = 0
      · rw [if_pos hz] at H
        simp only [Option.some.injEq, Prod.mk.injEq] at H
        obtain ⟨rfl, rfl⟩ := H
        have hne : x4.toList.isEmpty = true := by
          have := ext_empty x4 0 (by omega)
          simpa using this
        obtain ⟨⟨u1, e1⟩, hu, hf⟩ := Option.bind_eq_some_iff.1 (show (keys_Put.f k x2).bind _ = _ from by have := HF.out; rw [if_pos rfl] at this; exact this)
        have HU := Aside0.mk hu
        obtain ⟨Ao, co, eo⟩ := Kd.R_slice HO.out
        subst eo
        clear hu hz HF
        by_cases he : e1 = 0
        · have ce : (e1 != 0) = false := by simp [he]
          rw [if_pos he] at hf
          by_cases hq : u1.toList = a0.toList
          · have cq : (u1.toList == a0.toList) = true := beq_iff_eq.mpr hq
            rw [if_pos hq] at hf
            simp only [Option.some.injEq, Prod.mk.injEq] at hf
            obtain ⟨rfl, rfl⟩ := hf
            clear he hq
            go_wp2_with fail
            refine (keys_Put.calls k _ _ x2 u1 e1 _ (Kd.R_reads' HO.out).2.2 (Kd.R_reads' HO.out).2.1 HU.out).mono ?_
            rintro e w1 ⟨rfl, hb1⟩
            have HO1 := Aside0.mk (Kd.R_below HO.out hb1)
            have HB1 := Aside0.mk (below_step HB.out hb1)
            clear hb1 HO HB
            go_wp2
            go_ret2
            exact ⟨_, rfl, HO1.out, HB1.out⟩
          · have cq : (u1.toList == a0.toList) = false := beq_eq_false_iff_ne.mpr hq
            rw [if_neg hq] at hf
            simp only [Option.some.injEq, Prod.mk.injEq] at hf
            obtain ⟨rfl, rfl⟩ := hf
            clear he hq
            go_wp2_with fail
            refine (keys_Put.calls k _ _ x2 u1 e1 _ (Kd.R_reads' HO.out).2.2 (Kd.R_reads' HO.out).2.1 HU.out).mono ?_
            rintro e w1 ⟨rfl, hb1⟩
            have HB1 := Aside0.mk (below_step HB.out hb1)
            clear hb1 HO HB
            go_wp2
            go_ret2
            exact ⟨_, rfl, Kd.R_nil _ _ _ _ _, HB1.out⟩
        · have ce : (e1 != 0) = true := by simp [he]
          rw [if_neg he] at hf
          simp only [Option.some.injEq, Prod.mk.injEq] at hf
          obtain ⟨rfl, rfl⟩ := hf
          clear he
          go_wp2_with fail
          refine (keys_Put.calls k _ _ x2 u1 e1 _ (Kd.R_reads' HO.out).2.2 (Kd.R_reads' HO.out).2.1 HU.out).mono ?_
          rintro e w1 ⟨rfl, hb1⟩
          have HB1 := Aside0.mk (below_step HB.out hb1)
          clear hb1 HO HB
          go_wp2
          go_ret2
          exact ⟨_, rfl, Kd.R_nil _ _ _ _ _, HB1.out⟩
      · rw [if_neg hz] at H
        obtain ⟨⟨t1, t2, t3, t4, t5⟩, ht, H⟩ := Option.bind_eq_some_iff.1 H
        replace H : (if t5 = true then (if x2.length < 4398046511104 then keys_Get.l0 k1 (x2 ++ [⟨t1, t2, t3⟩]) t4 else none) else some ([], false)) = some (l, ok) := H
        have hp : 0 < x4.size := by omega
        have hne : x4.toList.isEmpty = false := by
          have := ext_more x4 0 hp
          simpa using this
        have hx0 : ∀ h : 0 < x4.size, ((x4[0]'h).toNat : Int) = bt x4 0 := bt_at x4 0
        by_cases h160 : bt x4 0 = 160
        · have c160 : (bt x4 0 == 160) = true := by simp [h160]
          have ht' : keys_takeText.f x4 = some (t1, t2, t3, t4, t5) := by unfold keys_Get.take at ht; rwa [if_pos h160] at ht
          have HT := Aside0.mk ht'
          clear ht ht' h160 hz
          go_wp2_with fail
          refine (keys_takeText.calls x4 t1 t2 t3 t4 t5 _ HT.out).mono ?_
          rintro e w1 ⟨rfl, hb1⟩
          have HO1 := Aside0.mk (Kd.R_below HO.out hb1)
          have HB1 := Aside0.mk (below_step HB.out hb1)
          clear hb1 HO HB
          cases t5 with
          | false =>
            rw [if_neg (by decide)] at H
            simp only [Option.some.injEq, Prod.mk.injEq] at H
            obtain ⟨rfl, rfl⟩ := H
            have HF' := HF.out
            rw [if_neg (by decide)] at HF'
            simp only [Option.some.injEq, Prod.mk.injEq] at HF'
            obtain ⟨rfl, rfl⟩ := HF'
            go_wp2
            go_ret2
            exact ⟨_, rfl, Kd.R_nil _ _ _ _ _, below_alloc HB1.out _⟩
          | true =>
            rw [if_pos rfl] at H
            by_cases hlim : x2.length < 4398046511104
            · rw [if_pos hlim] at H
              have HX := Aside0.mk H
              have HLM := Aside0.mk hlim
              clear H hlim
              go_wp2_with (first | ((with_reducible refine gate_builtin (b := .append) (xs := #[.tmp 26, .tmp 28]) rfl ?_); at_builtin; refine Kd.R_append k34 (w0 := w) w.heap.size rfl (.tmp 26) (.tmp 28) 23 34 (.agg #[(.int .i64 0), (.int .i64 0), (.string ⟨#[]⟩)]) 32 rfl Try.underlying23 info34 rfl (by decide) (by omega) u2 x2 (⟨t1, t2, t3⟩ : S34) [.int .i64 t1, .int .i64 t2, .string t3] (fun _ => True) (fun _ => False) rfl (by first | (go_simp; done) | (go_simp; rfl)) ?aP (fun _ hk => hk.elim) ?aF ?aO ?aB ?aS ?aL ?_))
              case aP => exact k34_mkM _ _ _ (⟨t1, t2, t3⟩ : S34)
              case aF => exact fun _ _ => trivial
              case aO => exact Kd.R_alloc HO1.out _
              case aB => exact below_alloc HB1.out _
              case aS => exact (below_alloc HB1.out _).size
              case aL => have := HLM.out; omega
              intro v2 w2 ho hb hg hat
              have n0_ := Aside0.mk ho
              have n1_ := Aside0.mk hb
              clear ho hb hg hat
              go_wp2
              go_roundg k1
              case measure => omega
              case rel => exact ⟨_, _, rfl, HX, ⟨by have := HK.out; omega⟩, n0_, n1_⟩
            · rw [if_neg hlim] at H
              exact absurd H (by simp)
        · have c160 : (bt x4 0 == 160) = false := by simp [h160]
          have ht' : keys_takeNumber.f k1 x4 = some (t1, t2, t3, t4, t5) := by unfold keys_Get.take at ht; rwa [if_neg h160] at ht
          have HT := Aside0.mk ht'
          clear ht ht' h160 hz
          go_wp2_with fail
          refine (keys_takeNumber.calls k1 x4 t1 t2 t3 t4 t5 _ HT.out).mono ?_
          rintro e w1 ⟨rfl, hb1⟩
          have HO1 := Aside0.mk (Kd.R_below HO.out hb1)
          have HB1 := Aside0.mk (below_step HB.out hb1)
          clear hb1 HO HB
          cases t5 with
          | false =>
            rw [if_neg (by decide)] at H
            simp only [Option.some.injEq, Prod.mk.injEq] at H
            obtain ⟨rfl, rfl⟩ := H
            have HF' := HF.out
            rw [if_neg (by decide)] at HF'
            simp only [Option.some.injEq, Prod.mk.injEq] at HF'
            obtain ⟨rfl, rfl⟩ := HF'
            go_wp2
            go_ret2
            exact ⟨_, rfl, Kd.R_nil _ _ _ _ _, below_alloc HB1.out _⟩
          | true =>
            rw [if_pos rfl] at H
            by_cases hlim : x2.length < 4398046511104
            · rw [if_pos hlim] at H
              have HX := Aside0.mk H
              have HLM := Aside0.mk hlim
              clear H hlim
              go_wp2_with (first | ((with_reducible refine gate_builtin (b := .append) (xs := #[.tmp 26, .tmp 28]) rfl ?_); at_builtin; refine Kd.R_append k34 (w0 := w) w.heap.size rfl (.tmp 26) (.tmp 28) 23 34 (.agg #[(.int .i64 0), (.int .i64 0), (.string ⟨#[]⟩)]) 32 rfl Try.underlying23 info34 rfl (by decide) (by omega) u2 x2 (⟨t1, t2, t3⟩ : S34) [.int .i64 t1, .int .i64 t2, .string t3] (fun _ => True) (fun _ => False) rfl (by first | (go_simp; done) | (go_simp; rfl)) ?aP (fun _ hk => hk.elim) ?aF ?aO ?aB ?aS ?aL ?_))
              case aP => exact k34_mkM _ _ _ (⟨t1, t2, t3⟩ : S34)
              case aF => exact fun _ _ => trivial
              case aO => exact Kd.R_alloc HO1.out _
              case aB => exact below_alloc HB1.out _
              case aS => exact (below_alloc HB1.out _).size
              case aL => have := HLM.out; omega
              intro v2 w2 ho hb hg hat
              have n0_ := Aside0.mk ho
              have n1_ := Aside0.mk hb
              clear ho hb hg hat
              go_wp2
              go_roundg k1
              case measure => omega
              case rel => exact ⟨_, _, rfl, HX, ⟨by have := HK.out; omega⟩, n0_, n1_⟩
            · rw [if_neg hlim] at H
              exact absurd H (by simp)
end Go.Proofs.Ytephhhflifjcmaa.K
