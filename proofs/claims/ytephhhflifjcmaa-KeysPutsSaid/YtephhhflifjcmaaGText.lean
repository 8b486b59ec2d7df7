/- keys.text in the printed form: it appends a text's bytes. -/
import Derived.Test.YtephhhflifjcmaaKx0
import Derived.Laws.CopyRow
import Derived.Laws.CopyOwn
import Derived.Lib.Strings
namespace Go.Proofs.Ytephhhflifjcmaa.K
open Go.RowKit Go.Proofs.YtephhhflifjcmaaW.PrintWords Go.Proofs.YtephhhflifjcmaaW.PrintLast Go.Proofs.YtephhhflifjcmaaW.PrintMore
/-- The groups of a text: eight bytes, and how many they are; 9 where another group follows. -/
def textK : Nat → List Int → List Int
  | 0, _ => []
  | k + 1, s => s.take 8 ++ List.replicate (8 - s.length) 0 ++ (if s.length ≤ 8 then [(s.length : Int)] else 9 :: textK k (s.drop 8))
def keys_text.f (l0 : List Int) (a1 : ByteArray) : Option (List Int) :=
  if l0.length + 9 * a1.size + 100 < 140737488355328 then some (l0 ++ 160 :: textK (a1.size + 1) (bytesOf a1)) else none

/-- copy(dst, s), s a text: as many of its bytes as fit. -/
theorem copy_text {P : Program} (w : World) (dT sT ty elem : TypeId) (g dLen dCap : Nat) (s : ByteArray) (cur : Array Value) (t : TypeId)
    (hu : P.underlying dT = some (.slice elem)) (hs : (P.info? elem).map (·.size) = some 1) (hg : w.heap[g]? = some (.cells cur t (0, 0))) (hfit : min s.size dLen ≤ cur.size) :
    (Builtin.copy_ #[dT, sT] ty #[.slice (some ⟨g, 0, none⟩) dLen dCap, .string s]).run P w =
        .ok (goInt ((min s.size dLen : Nat) : Int)) (w.setRow g ((nums .u8 ((bytesOf s).take dLen)) ++ cur.toList.drop (min s.size dLen)).toArray) := by
  have e1 : (nums .u8 ((bytesOf s).take dLen)).length = min s.size dLen := by
    rw [nums_length, List.length_take, bytesOf_length, Nat.min_comm]
  have e2 : List.take (min s.size dLen) (List.map (fun b : UInt8 => Value.int IntKind.u8 (b.toNat : Int)) s.data.toList) = nums .u8 ((bytesOf s).take dLen) := by
    have hl : s.data.toList.length = s.size := data_length s
    unfold nums bytesOf
    rw [List.map_take, List.map_map]
    rcases Nat.le_total s.size dLen with hle | hle
    · rw [Nat.min_eq_left hle, List.take_of_length_le (by rw [List.length_map]; omega), List.take_of_length_le (by rw [List.length_map]; omega)]
      rfl
    · rw [Nat.min_eq_right hle]
      rfl
  have hst := run_storeCells_at P g 0 t (nums .u8 ((bytesOf s).take dLen)) 0 cur w hg (by rw [e1]; simpa using hfit) (by intro v hv; simp only [nums, List.mem_map] at hv; obtain ⟨x, _, rfl⟩ := hv; rfl)
  simp only [Nat.zero_add, List.take_zero, List.nil_append, e1] at hst
  cases hq : P.info? elem with
  | none => simp [hq] at hs
  | some i =>
    have hm : Nat.min s.size dLen = min s.size dLen := rfl
    simp only [Builtin.copy_, Builtin.lenOf, Builtin.firstCells]
    simp [run_underlying hu, sizeOf, typeInfo, hq, hm, e2, hst, Result.andThen]

theorem ext_empty (s : ByteArray) (n : Nat) (h : s.size ≤ n) : (s.extract n s.size).toList.isEmpty = true := by
  rw [Lib.extract_toList, List.drop_of_length_le (by rw [data_length]; exact h), List.take_nil]
  rfl
theorem ext_more (s : ByteArray) (n : Nat) (h : n < s.size) : (s.extract n s.size).toList.isEmpty = false := by
  rw [Lib.extract_toList]
  have : ((s.data.toList.drop n).take (s.size - n)).length = s.size - n := by rw [List.length_take, List.length_drop, data_length]; omega
  cases hq : (s.data.toList.drop n).take (s.size - n) with
  | nil => rw [hq] at this; simp at this; omega
  | cons a l => rfl
theorem bytesOf_rest (s : ByteArray) (n : Nat) : bytesOf (s.extract n s.size) = (bytesOf s).drop n := by
  unfold bytesOf
  rw [Lib.extract_data, List.take_of_length_le (by rw [List.length_drop, data_length]; omega), List.map_drop]
theorem size_rest (s : ByteArray) (n : Nat) : (s.extract n s.size).size = s.size - n := by simp
theorem kept_on {w W W2 : World} {S : Nat → Prop} (h : Kept w W S) (k : Below W.heap.size W W2) : Kept w W2 S := h.then_ (Kept.of_below k (fun _ => False)) (fun _ h => h.elim)
theorem row_reads (W : World) (g : Nat) (cs : Array Value) (ys : List Int) {t : TypeId} (hb : W.heap[g]? = some (.cells cs t (0, 0))) (h : cs.toList = nums .u8 ys) (hl : ys.length = 9) : (Kd.int .u8).C W (some ⟨g, 0, none⟩) ys.length ys := by
  refine Kd.C_of_reads (enc := Value.int .u8) (d := (0 : Int)) (h1 := fun _ => rfl) ⟨rfl, by omega, fun _ => ⟨_, rfl, fun j hj => ?_⟩⟩
  rw [add_plain]
  have : cs[j]? = some (.int .u8 (ys.getD j 0)) := by
    rw [← Array.getElem?_toList, h, nums, List.getElem?_map, List.getElem?_eq_getElem hj, List.getD_eq_getElem?_getD, List.getElem?_eq_getElem hj]
    rfl
  simp [World.cell?, hb, this]
theorem set_last {cs : Array Value} {l : List Int} {n : Nat} (hl : l.length = n) (h : cs.toList = nums .u8 l ++ List.replicate (9 - n) (Value.int .u8 0)) (hn : n ≤ 8) (m : Int) :
    (cs.setIfInBounds 8 (Value.int .u8 m)).toList = nums .u8 (l ++ List.replicate (8 - n) 0 ++ [m]) := by
  rw [Array.toList_setIfInBounds, h]
  have e : List.replicate (9 - n) (Value.int .u8 0) = List.replicate (8 - n) (Value.int .u8 0) ++ [Value.int .u8 0] := by
    rw [show 9 - n = (8 - n) + 1 by omega, List.replicate_succ']
  rw [e, ← List.append_assoc, List.set_append_right _ _ (by simp [nums_length]; omega)]
  simp only [nums, List.map_append, List.map_replicate, List.map_cons, List.map_nil]
  rw [show 8 - (List.map (fun x => Value.int IntKind.u8 x) l ++ List.replicate (8 - n) (Value.int .u8 0)).length = 0 by simp; omega]
  rfl

set_option maxHeartbeats 1000000 in
set_option maxRecDepth 100000 in
theorem keys_text.calls (P0_ : Nat → Prop) (u9000_ : Value) (l0 : List Int) (a1 : ByteArray) (r : List Int) (w0 w : World) (hB : Below w0.heap.size w0 w) (ho0 : Kd.R (Kd.int .u8) 5 w w0.heap.size P0_ u9000_ l0) (h : keys_text.f l0 a1 = some r) :
    Calls Try.prog 25 #[u9000_, .string a1] w fun e w' => ∃ v0_ : Value, e = .returned (v0_) ∧ Kd.R (Kd.int .u8) 5 w' w0.heap.size (fun k_ => (P0_ k_ ∨ w.heap.size ≤ k_)) v0_ r ∧ Below w0.heap.size w0 w' ∧ Kept w w' (fun k_ => P0_ k_) := by
  have HO0 := Aside0.mk (show Kd.R (Kd.int .u8) 5 w w0.heap.size (fun k_ => (P0_ k_ ∨ w.heap.size ≤ k_)) u9000_ l0 from Kd.R_mono ho0 (fun k_ hk => (.inl hk)))
  have HK := Aside0.mk (Kept.refl w (fun k_ => P0_ k_))
  have HB := Aside0.mk hB
  clear hB
  unfold keys_text.f at h
  split at h
  case isFalse => cases h
  rename_i hlim
  have HR := Aside0.mk (Option.some.inj h)
  clear h
  have HL := Aside0.mk hlim
  clear hlim
  go_enter Try.func25, Try.ntmps25
  go_wp2_with (first | ((with_reducible refine gate_builtin (b := .append) (xs := #[.tmp 7, .tmp 8]) rfl ?_); at_builtin; refine Kd.R_append (Kd.int .u8) (w0 := w0) w0.heap.size rfl (.tmp 7) (.tmp 8) 49 5 (.int .u8 0) 1 rfl Try.underlying49 info5 rfl (by decide) (by omega) u9000_ l0 160 [.int .u8 160] (fun k_ => (P0_ k_ ∨ w.heap.size ≤ k_)) (fun _ => False) rfl rfl ?aP (fun _ hk => hk.elim) ?aF ?aO ?aB ?aS ?aL ?_; (case aP => exact rfl); (case aB => exact HB.out); (case aF => exact (fun k_ hk => (.inr (Nat.le_trans HK.out.1 hk)))); (case aO => exact HO0.out); (case aS => exact (below_size HB.out)); (case aL => have := HL.out; omega); intro v1 w1 ho hb hg hat; have n0_ := Aside0.mk (hb); have n1_ := Aside0.mk (Kept.of_grown (S := (fun k_ => P0_ k_)) hg HK.out (fun k_ e_ => .inl (ho0.1 k_ e_))); have n2_ := Aside0.mk (ho); clear HB; clear HK; clear HO0; have HB := n0_; have HK := n1_; have HO1 := n2_; clear n0_ n1_ n2_; clear ho hb hg hat))
  go_loopg [0, 1] a1.size (fun kq v0 v1 w' => ∃ (x0 : List Int) (x1 : ByteArray), v1 = .string x1 ∧ Aside0 (x1.size ≤ kq) ∧ Aside0 (kq ≤ a1.size) ∧ Aside0 (x0 ++ textK (kq + 1) (bytesOf x1) = r ∧ x0.length + 9 * kq + 50 < 140737488355328) ∧ Aside0 (Kd.R (Kd.int .u8) 5 w' w0.heap.size (fun k_ => (P0_ k_ ∨ w.heap.size ≤ k_)) v0 x0) ∧ Aside0 (Kept w w' (fun k_ => P0_ k_)) ∧ Aside0 (Below w0.heap.size w0 w'))
  case atStart => exact ⟨_, _, rfl, ⟨Nat.le_refl _⟩, ⟨Nat.le_refl _⟩, ⟨by rw [← HR.out, List.append_assoc]; rfl, by have := HL.out; simp; omega⟩, HO1, HK, HB⟩
  case round =>
    obtain ⟨x0, x1, rfl, HA, HA2, HT, HO, HK, HB⟩ := hrel
    go_wp2_with fail
    have hs5 : (Try.prog.info? 5).map (·.size) = some 1 := by kernel_rfl
    rw [copy_text _ 49 9 3 5 wr.heap.size 8 9 x1 _ 73 Try.underlying49 hs5 (heap_alloc_new _ _) (by simp; omega)]
    obtain ⟨n, hn⟩ : ∃ n, n = min x1.size 8 := ⟨_, rfl⟩
    have hn1 : n ≤ x1.size := by omega
    have hn2 : n ≤ 8 := by omega
    rw [← hn]
    obtain ⟨cs, hcs⟩ : ∃ cs : Array Value, cs = (nums .u8 ((bytesOf x1).take 8) ++ List.drop n [Value.int .u8 0, .int .u8 0, .int .u8 0, .int .u8 0, .int .u8 0, .int .u8 0, .int .u8 0, .int .u8 0, .int .u8 0]).toArray := ⟨_, rfl⟩
    rw [← hcs]
    have Hn := Aside0.mk hn
    clear hn
    have Hcs := Aside0.mk hcs
    clear hcs
    obtain ⟨w2, hw2⟩ : ∃ w2, w2 = (wr.alloc (.cells #[Value.int .u8 0, .int .u8 0, .int .u8 0, .int .u8 0, .int .u8 0, .int .u8 0, .int .u8 0, .int .u8 0, .int .u8 0] 73)).setRow wr.heap.size cs := ⟨_, rfl⟩
    rw [← hw2]
    have hb2 : w2.heap[wr.heap.size]? = some (.cells cs 73 (0, 0)) := by rw [hw2]; exact setRow_heap _ _ _ _ _ _ (heap_alloc_new _ _)
    have HBW := Aside0.mk (show Below wr.heap.size wr w2 from by rw [hw2]; exact below_setRow ((Below.refl _ _).alloc (Nat.le_refl _) _) (Nat.le_refl _) _)
    clear hw2
    have hcl : cs.toList = nums .u8 ((bytesOf x1).take 8) ++ List.replicate (9 - n) (Value.int .u8 0) := by
      rw [Hcs.out]
      have : (List.drop n [Value.int .u8 0, .int .u8 0, .int .u8 0, .int .u8 0, .int .u8 0, .int .u8 0, .int .u8 0, .int .u8 0, .int .u8 0]) = List.replicate (9 - n) (Value.int .u8 0) := by
        rw [show [Value.int .u8 0, .int .u8 0, .int .u8 0, .int .u8 0, .int .u8 0, .int .u8 0, .int .u8 0, .int .u8 0, .int .u8 0] = List.replicate 9 (Value.int .u8 0) from rfl, List.drop_replicate]
      rw [this]
    have hnl : (nums .u8 ((bytesOf x1).take 8)).length = n := by rw [nums_length, List.length_take, bytesOf_length, Hn.out, Nat.min_comm]
    have c8 : w2.cell? ⟨wr.heap.size, 8, none⟩ = some (.int .u8 0) := by
      have : cs[8]? = some (.int .u8 0) := by
        rw [← Array.getElem?_toList, hcl, List.getElem?_append_right (by omega), List.getElem?_replicate, if_pos (by omega)]
      simp [World.cell?, hb2, this]
    have f8 : w2.frozen? ⟨wr.heap.size, 8, none⟩ = false := by simp [World.frozen?, hb2]
    have Hcl := Aside0.mk hcl
    clear hcl
    have hnl' : ((bytesOf x1).take 8).length = n := by rw [nums_length] at hnl; exact hnl
    have Hnl := Aside0.mk hnl
    clear hnl
    simp only [Result.andThen_ok]
    rw [Oper.upon_value]
    have hsz : x1.size - n + n = x1.size := by omega
    by_cases h8 : x1.size ≤ 8
    · have he : (x1.extract n x1.size).toList.isEmpty = true := ext_empty _ _ (by rw [Hn.out]; omega)
      have hlast : textK (gk + 1) (bytesOf x1) = (bytesOf x1).take 8 ++ List.replicate (8 - n) 0 ++ [(n : Int)] := by
        rw [textK, bytesOf_length, if_pos h8, show 8 - x1.size = 8 - n by rw [Hn.out]; omega, show x1.size = n by rw [Hn.out]; omega]
      have hd : (w2.setCell ⟨wr.heap.size, 8, none⟩ (Value.int .u8 (n : Int))).heap[wr.heap.size]? = some (.cells (cs.setIfInBounds 8 (Value.int .u8 (n : Int))) 73 (0, 0)) := blk_set hb2 8 _
      have hys : ((bytesOf x1).take 8 ++ List.replicate (8 - n) 0 ++ [(n : Int)]).length = 9 := by simp only [List.length_append, hnl', List.length_replicate, List.length_singleton]; omega
      have hrow := row_reads _ _ _ _ hd (set_last hnl' Hcl.out hn2 (n : Int)) hys
      rw [hys] at hrow
      have hbw : Below wr.heap.size wr (w2.setCell ⟨wr.heap.size, 8, none⟩ (Value.int .u8 (n : Int))) := HBW.out.setCell (Nat.le_refl _) _
      have HX := Aside0.mk (And.intro hlast (And.intro hrow hbw))
      clear hlast hrow hbw hd hsz
      go_wp2_with (first | ((with_reducible refine gate_builtin (b := .append) (xs := #[.tmp 22, .tmp 23]) rfl ?_); at_builtin; refine Kd.R_append_row (Value.int .u8) (0 : Int) (h1 := fun _ => rfl) (w0 := w0) w0.heap.size rfl (.tmp 22) (.tmp 23) 49 5 (.int .u8 0) 1 rfl Try.underlying49 info5 rfl (by decide) u0 x0 ((bytesOf x1).take 8 ++ List.replicate (8 - n) 0 ++ [(n : Int)]) (some ⟨wr.heap.size, 0, none⟩) 9 9 (fun k_ => (P0_ k_ ∨ w.heap.size ≤ k_)) rfl rfl ?aF ?aO ?aR ?aB ?aS ?aL ?_; (case aF => exact (fun k_ hk => (.inr (Nat.le_trans (kept_on HK.out HX.out.2.2).1 hk)))); (case aO => exact Kd.R_below HO.out HX.out.2.2); (case aR => exact HX.out.2.1); (case aB => exact below_then HB.out HB.out.size HX.out.2.2); (case aS => exact (below_then HB.out HB.out.size HX.out.2.2).size); (case aL => have := HT.out.2; omega); intro v3 w3 ho hb hg hat; have n0_ := Aside0.mk hb; have n1_ := Aside0.mk (Kept.of_grown (S := (fun k_ => P0_ k_)) hg (kept_on HK.out HX.out.2.2) (fun k_ e_ => (HO.out.1 k_ e_))); have n2_ := Aside0.mk ho; clear ho hb hg hat))
      go_ret
      refine ⟨_, rfl, ?_, n0_.out, n1_.out⟩
      rw [← HT.out.1, HX.out.1]
      have hq := n2_.out
      rw [← List.append_assoc, ← List.append_assoc] at hq ⊢
      simp only [List.append_assoc] at hq ⊢
      exact hq
    · have he : (x1.extract n x1.size).toList.isEmpty = false := ext_more _ _ (by rw [Hn.out]; omega)
      obtain ⟨gk, rfl⟩ : ∃ m, gk = m + 1 := ⟨gk - 1, by have := HA.out; omega⟩
      have hlast : textK (gk + 1 + 1) (bytesOf x1) = (bytesOf x1).take 8 ++ List.replicate (8 - n) 0 ++ [9] ++ textK (gk + 1) (bytesOf (x1.extract n x1.size)) := by
        rw [textK, bytesOf_length, if_neg h8, show 8 - x1.size = 8 - n by rw [Hn.out]; omega, bytesOf_rest, show n = 8 by rw [Hn.out]; omega]
        simp
      have hd0 : (w2.setCell ⟨wr.heap.size, 8, none⟩ (Value.int .u8 (n : Int))).heap[wr.heap.size]? = some (.cells (cs.setIfInBounds 8 (Value.int .u8 (n : Int))) 73 (0, 0)) := blk_set hb2 8 _
      have hd : ((w2.setCell ⟨wr.heap.size, 8, none⟩ (Value.int .u8 (n : Int))).setCell ⟨wr.heap.size, 8, none⟩ (Value.int .u8 9)).heap[wr.heap.size]? = some (.cells (cs.setIfInBounds 8 (Value.int .u8 9)) 73 (0, 0)) := by
        have := blk_set hd0 8 (Value.int .u8 9)
        rwa [Array.setIfInBounds_setIfInBounds] at this
      have hys : ((bytesOf x1).take 8 ++ List.replicate (8 - n) 0 ++ [9]).length = 9 := by simp only [List.length_append, hnl', List.length_replicate, List.length_singleton]; omega
      have hrow := row_reads _ _ _ _ hd (set_last hnl' Hcl.out hn2 9) hys
      rw [hys] at hrow
      have hbw : Below wr.heap.size wr ((w2.setCell ⟨wr.heap.size, 8, none⟩ (Value.int .u8 (n : Int))).setCell ⟨wr.heap.size, 8, none⟩ (Value.int .u8 9)) := (HBW.out.setCell (Nat.le_refl _) _).setCell (Nat.le_refl _) _
      have HX := Aside0.mk (And.intro hlast (And.intro hrow hbw))
      have c9 : (w2.setCell ⟨wr.heap.size, 8, none⟩ (Value.int .u8 (n : Int))).cell? ⟨wr.heap.size, 8, none⟩ = some (.int .u8 (n : Int)) := by
        have hk : 8 < cs.size := by rw [← Array.length_toList, Hcl.out, List.length_append, Hnl.out, List.length_replicate]; omega
        simp [World.cell?, hd0, hk]
      have f9 : (w2.setCell ⟨wr.heap.size, 8, none⟩ (Value.int .u8 (n : Int))).frozen? ⟨wr.heap.size, 8, none⟩ = false := by simp [World.frozen?, hd0]
      clear hlast hrow hbw hd hd0 hsz hys
      go_wp2_with (first | ((with_reducible refine gate_builtin (b := .append) (xs := #[.tmp 22, .tmp 23]) rfl ?_); at_builtin; refine Kd.R_append_row (Value.int .u8) (0 : Int) (h1 := fun _ => rfl) (w0 := w0) w0.heap.size rfl (.tmp 22) (.tmp 23) 49 5 (.int .u8 0) 1 rfl Try.underlying49 info5 rfl (by decide) u0 x0 ((bytesOf x1).take 8 ++ List.replicate (8 - n) 0 ++ [9]) (some ⟨wr.heap.size, 0, none⟩) 9 9 (fun k_ => (P0_ k_ ∨ w.heap.size ≤ k_)) rfl rfl ?aF ?aO ?aR ?aB ?aS ?aL ?_; (case aF => exact (fun k_ hk => (.inr (Nat.le_trans (kept_on HK.out HX.out.2.2).1 hk)))); (case aO => exact Kd.R_below HO.out HX.out.2.2); (case aR => exact HX.out.2.1); (case aB => exact below_then HB.out HB.out.size HX.out.2.2); (case aS => exact (below_then HB.out HB.out.size HX.out.2.2).size); (case aL => have := HT.out.2; omega); intro v3 w3 ho hb hg hat; have n0_ := Aside0.mk hb; have n1_ := Aside0.mk (Kept.of_grown (S := (fun k_ => P0_ k_)) hg (kept_on HK.out HX.out.2.2) (fun k_ e_ => (HO.out.1 k_ e_))); have n2_ := Aside0.mk ho; clear ho hb hg hat))
      go_roundg gk
      case measure => omega
      case rel =>
        refine ⟨_, _, rfl, ⟨by rw [size_rest, Hn.out]; have := HA.out; omega⟩, ⟨by have := HA2.out; omega⟩, ⟨?_, ?_⟩, n2_, n1_, n0_⟩
        · rw [← HT.out.1, HX.out.1]
          simp [List.append_assoc]
        · have := HT.out.2
          simp only [List.length_append, hnl', List.length_replicate, List.length_singleton]
          omega
end Go.Proofs.Ytephhhflifjcmaa.K
