/- slices.IndexFunc over jobs, at the closure that tells who is not due; that closure. -/
import Derived.Test.YtaonabfnagmogaaSx0
import Derived.Test.YtaonabfnagmogaaSx8
namespace Go.Proofs.Ytaonabfnagmogaa.S
open Go.RowKit Go.Proofs.YtaonabfnagmogaaW.PrintWords Go.Proofs.YtaonabfnagmogaaW.PrintLast Go.Proofs.YtaonabfnagmogaaW.PrintMore
set_option linter.unusedVariables false
set_option linter.unusedSimpArgs false
def slotV (x : S27) (t : Int) : Int := if wrap64 (t - x.f4) < 0 then -1 else wrap64 (Int.tdiv (wrap64 (t - x.f4)) x.f3)
def dueV (x : S27) (now : Int) : Bool := if x.f5 = true then false else decide (slotV x x.f6 < slotV x now)
theorem slot_tells (x : S27) (t : Int) (h : x.f3 ≠ 0) : sched_Slot.f x.f0 x.f1 x.f2 x.f3 x.f4 x.f5 x.f6 t = some (slotV x t) := by
  unfold sched_Slot.f slotV
  by_cases h1 : wrap64 (t - x.f4) < 0
  · rw [if_pos h1, if_pos h1]
  · rw [if_neg h1, if_neg h1, if_neg h]
theorem due_tells (x : S27) (now : Int) (h : x.f3 ≠ 0) : sched_due.f x.f0 x.f1 x.f2 x.f3 x.f4 x.f5 x.f6 now = some (dueV x now) := by
  unfold sched_due.f dueV
  by_cases h1 : x.f5 = true
  · rw [if_pos h1, if_pos h1]
  · rw [if_neg h1, if_neg h1, slot_tells x _ h, slot_tells x _ h]; rfl
abbrev job (x : S27) : Value := .agg #[.string x.f0, .string x.f1, .int .i64 x.f2, .int .i64 x.f3, .int .i64 x.f4, .bool x.f5, .int .i64 x.f6]
set_option maxHeartbeats 2000000 in
set_option maxRecDepth 100000 in
theorem due_1_calls (x : S27) (now : Int) (ad : Addr) (w : World) (h3 : x.f3 ≠ 0) (hc : w.cell? ad = some (.int .i64 now)) :
    Calls Try.prog 21 #[job x, .pointer (some ad)] w fun e w' => e = .returned (.bool (!dueV x now)) ∧ Below w.heap.size w w' := by
  have hu27 := Try.underlying27
  have hc' := fun o => pw_cell_below (below_alloc (Below.refl w.heap.size w) o) hc
  have HC := Aside0.mk hc
  clear hc
  go_enter Try.func21, Try.ntmps21
  go_wp2_with fail
  refine (sched_due.calls x.f0 x.f1 x.f2 x.f3 x.f4 x.f5 x.f6 now _ _ (due_tells x now h3)).mono ?_
  rintro e w' ⟨rfl, hb⟩
  have HB := Aside0.mk (below_step (below_alloc (Below.refl w.heap.size w) _) hb)
  clear hb hc'
  go_wp2
  go_ret
  exact ⟨rfl, HB.out⟩
/-- Where the first stands that is not due. -/
def idxF (now : Int) : List S27 → Nat → Int
  | [], _ => -1
  | x :: l, i => if dueV x now = true then idxF now l (i + 1) else i
set_option maxHeartbeats 4000000 in
set_option maxRecDepth 100000 in
theorem index_calls (A : Option Addr) (c : Nat) (l : List S27) (now : Int) (ad : Addr) (w : World) (hr : Kd.C k27 w A l.length l) (h3 : ∀ x ∈ l, x.f3 ≠ 0) (hc : w.cell? ad = some (.int .i64 now)) :
    Calls Try.prog 29 #[.slice A l.length c, .func (Fn.func 21) #[] #[.pointer (some ad)]] w fun e w' => e = .returned (.int .i64 (idxF now l 0)) ∧ Below w.heap.size w w' := by
  have hu27 := Try.underlying27
  have hm : l.length ≤ 9223372036854775807 := Kd.C_max hr
  have HR := Aside0.mk hr
  have HC := Aside0.mk hc
  have H3 := Aside0.mk h3
  clear hr hc h3
  go_enter Try.func29, Try.ntmps29
  go_wp2_with fail
  go_loopg [5, 8] l.length (fun kq v5 v8 w' => ∃ k : Nat, k ≤ l.length ∧ v8 = .int .i64 k ∧ Aside0 (kq = l.length - k) ∧ Aside0 (idxF now l 0 = idxF now (l.drop k) k) ∧ Aside0 (Below w.heap.size w w'))
  case atStart => exact ⟨0, Nat.zero_le _, rfl, ⟨rfl⟩, ⟨rfl⟩, ⟨Below.refl _ _⟩⟩
  case round =>
    obtain ⟨k, hk, rfl, HK, HT, HB⟩ := hrel
    by_cases hlt : k < l.length
    · obtain ⟨ad0, e0, p0, p1, p2, p3, p4, p5, p6⟩ := at_T27 (Kd.C_below HR.out HB.out) (k : Int) (by omega) (by omega)
      subst e0
      rw [Int.toNat_natCast] at p0 p1 p2 p3 p4 p5 p6
      go_wp2_with fail
      have hx3 : (rd_T27 l k).f3 ≠ 0 := by
        have e : rd_T27 l k = l[k] := by simp [rd_T27, List.getD_eq_getElem?_getD, List.getElem?_eq_getElem hlt]
        rw [e]; exact H3.out _ (List.getElem_mem hlt)
      refine (due_1_calls (rd_T27 l k) now ad _ hx3 (pw_cell_below HB.out HC.out)).mono ?_
      rintro e w1 ⟨rfl, hb1⟩
      have HB1 := Aside0.mk (below_step HB.out hb1)
      have hdr : idxF now (l.drop k) k = if dueV (rd_T27 l k) now = true then idxF now (l.drop (k + 1)) (k + 1) else (k : Int) := by
        have e0 : rd_T27 l k = l[k] := by simp [rd_T27, List.getD_eq_getElem?_getD, List.getElem?_eq_getElem hlt]
        rw [List.drop_eq_getElem_cons hlt, idxF, e0]
      have HD := Aside0.mk hdr
      clear hdr hb1 p0 p1 p2 p3 p4 p5 p6 hx3
      generalize dueV (rd_T27 l k) now = b at HD ⊢
      cases b with
      | true =>
        have HT2 := Aside0.mk (show idxF now l 0 = idxF now (l.drop (k + 1)) (k + 1) from by rw [HT.out, HD.out, if_pos rfl])
        go_wp2
        go_roundg (l.length - (k + 1))
        case measure => have := HK.out; omega
        case rel => exact ⟨k + 1, by omega, by go_num, ⟨rfl⟩, ⟨HT2.out⟩, HB1⟩
      | false =>
        have HT2 := Aside0.mk (show idxF now l 0 = (k : Int) from by rw [HT.out, HD.out, if_neg (by simp)])
        go_wp2
        go_ret
        exact ⟨by rw [HT2.out]; rfl, HB1.out⟩
    · have HT2 := Aside0.mk (show idxF now l 0 = -1 from by rw [HT.out, List.drop_of_length_le (by omega)]; rfl)
      go_wp2
      go_ret
      exact ⟨by rw [HT2.out]; rfl, HB.out⟩
end Go.Proofs.Ytaonabfnagmogaa.S
