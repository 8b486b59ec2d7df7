/- keys.takeText in the printed form: the text at the front of a key, what is left, and whether there is one. -/
import Derived.Test.YtephhhflifjcmaaKx2
import Derived.Test.YtephhhflifjcmaaHBuild
import Derived.Test.YtephhhflifjcmaaShelf
namespace Go.Proofs.Ytephhhflifjcmaa.K
open Go.RowKit Go.Proofs.YtephhhflifjcmaaW.PrintWords Go.Proofs.YtephhhflifjcmaaW.PrintLast Go.Proofs.YtephhhflifjcmaaW.PrintMore
set_option linter.unusedVariables false
set_option linter.unusedSimpArgs false
/-- Groups are taken while the ninth byte is 9; the last one tells how many of its bytes count. -/
def takeK : Nat → List UInt8 → List UInt8 → List UInt8 × List UInt8 × Bool
  | 0, _, _ => ([], [], false)
  | k + 1, acc, s =>
    if s.length ≤ 8 then ([], [], false)
    else if (s.getD 8 0).toNat = 9 then takeK k (acc ++ s.take 8) (s.drop 9)
    else if (s.getD 8 0).toNat ≤ 8 then (acc ++ s.take (s.getD 8 0).toNat, s.drop 9, true)
    else ([], [], false)
def keys_takeText.f (a0 : ByteArray) : Option (Int × Int × ByteArray × ByteArray × Bool) :=
  if 0 < a0.size ∧ a0.size < 140737488355328 then
    some (if (takeK (a0.size + 1) [] (a0.data.toList.drop 1)).2.2 then 2 else 0, 0, ⟨(takeK (a0.size + 1) [] (a0.data.toList.drop 1)).1.toArray⟩, ⟨(takeK (a0.size + 1) [] (a0.data.toList.drop 1)).2.1.toArray⟩, (takeK (a0.size + 1) [] (a0.data.toList.drop 1)).2.2)
  else none

theorem bt_list (s : ByteArray) (i : Nat) : bt s i = ((s.data.toList.getD i 0).toNat : Int) := by
  unfold bt
  split
  · rename_i h
    have h' : i < s.data.toList.length := by rw [data_length]; exact h
    rw [List.getD_eq_getElem?_getD, List.getElem?_eq_getElem h']
    rfl
  · rename_i h
    have h' : s.data.toList.length ≤ i := by rw [data_length]; simpa using h
    rw [List.getD_eq_getElem?_getD, List.getElem?_eq_none h']
    rfl

theorem size_rest9 (s : ByteArray) (n : Nat) : (s.extract n s.size).size = s.size - n := by simp
set_option maxHeartbeats 4000000 in
set_option maxRecDepth 100000 in
theorem keys_takeText.calls (a0 : ByteArray) (r1 : Int) (r2 : Int) (r3 : ByteArray) (r4 : ByteArray) (r5 : Bool) (w : World) (h : keys_takeText.f a0 = some (r1, r2, r3, r4, r5)) :
    Calls Try.prog 23 #[.string a0] w fun e w' => e = .returned (.tuple #[.agg #[.int .i64 r1, .int .i64 r2, .string r3], .string r4, .bool r5]) ∧ Below w.heap.size w w' := by
  have hu34 := Try.underlying34
  unfold keys_takeText.f at h
  split at h
  case isFalse => cases h
  rename_i hlim
  obtain ⟨hl0, hl1⟩ := hlim
  obtain ⟨res, hres⟩ : ∃ res, takeK (a0.size + 1) [] (a0.data.toList.drop 1) = res := ⟨_, rfl⟩
  rw [hres] at h
  have HR := Aside0.mk (Option.some.inj h)
  have HRes := Aside0.mk hres
  clear h hres
  go_enter Try.func23, Try.ntmps23
  go_wp2_with fail
  go_loopg [0, 6] a0.size (fun kq v0 v6 w' => ∃ (x0 : ByteArray) (acc : List UInt8), v0 = .string x0 ∧ Aside0 (x0.size ≤ kq) ∧ Aside0 (acc.length + x0.size ≤ a0.size) ∧ Aside0 (takeK (kq + 1) acc x0.data.toList = res) ∧ Aside0 (Lib.IsBuilder 66 5 (w.heap.size + 1) (w.heap.size + 1) (Lib.byteCells acc) w') ∧ Aside0 (Below (w.heap.size + 1) (w.alloc (.cells #[.int .i64 0, .int .i64 0, .string ⟨#[]⟩] 34)) w'))
  case atStart =>
    refine ⟨_, [], rfl, ⟨by simp⟩, ⟨by simp⟩, ⟨?_⟩, ⟨?_⟩, ⟨?_⟩⟩
    · rw [Lib.extract_data, List.take_of_length_le (by rw [List.length_drop, data_length]; omega)]
      exact HRes.out
    · have := Lib.fresh_isBuilder 66 5 (w.alloc (.cells #[.int .i64 0, .int .i64 0, .string ⟨#[]⟩] 34))
      have e : (w.alloc (.cells #[.int .i64 0, .int .i64 0, .string ⟨#[]⟩] 34)).heap.size = w.heap.size + 1 := by simp
      rw [e] at this
      exact this
    · exact (Below.refl _ _).alloc (by simp) _
  case round =>
    clear HRes
    obtain ⟨x0, acc, rfl, HA, HA2, HT, HI, HB⟩ := hrel
    have hx8 : ∀ h : 8 < x0.size, ((x0[8]'h).toNat : Int) = bt x0 8 := bt_at x0 8
    have hbr := bt_range x0 8
    have hbk : wr.heap[w.heap.size]? = some (.cells #[.int .i64 0, .int .i64 0, .string ⟨#[]⟩] 34 (0, 0)) := (HB.out.block _ (by omega)).trans (blk_new _ _)
    have hbw : Below w.heap.size w wr := (below_alloc (Below.refl _ _) _).trans (HB.out.mono (by omega))
    have HW := Aside0.mk hbw
    clear hbw
    have HBK := Aside0.mk hbk
    clear hbk
    by_cases h8 : 8 < x0.size
    · have h8' : ¬ x0.data.toList.length ≤ 8 := by rw [data_length]; omega
      have hbl : bt x0 8 = ((x0.data.toList.getD 8 0).toNat : Int) := bt_list x0 8
      have HT' := HT.out
      rw [takeK, if_neg h8'] at HT'
      clear HT h8'
      by_cases h9 : bt x0 8 = 9
      · rw [if_pos (by omega)] at HT'
        have HT := Aside0.mk HT'
        have c9 : (bt x0 8 == 9) = true := by simp [h9]
        have Hbl := Aside0.mk hbl
        clear hbl HT' h9
        go_wp2_with (go_at_call 35; refine (H.writeString (w.heap.size + 1) (w.heap.size + 1) (Lib.byteCells acc) _ wr HI.out ?c1 ?c2).mono ?_)
        case c1 => rw [Lib.byteCells_length]; have := HA2.out; simp; omega
        case c2 => have := HB.out.size; simpa using this
        rintro e w1 ⟨rfl, hb1, hb2⟩
        obtain ⟨m, rfl⟩ : ∃ m, gk = m + 1 := ⟨gk - 1, by have := HA.out; omega⟩
        have HI1 := Aside0.mk hb1
        have HB1 := Aside0.mk (HB.out.trans (hb2.mono (Nat.le_refl _)))
        clear hb1 hb2
        go_wp2
        go_roundg m
        case measure => omega
        case rel =>
          refine ⟨_, acc ++ x0.data.toList.take 8, rfl, ⟨by simp; have := HA.out; omega⟩, ⟨?_⟩, ⟨?_⟩, ⟨?_⟩, HB1⟩
          · have := HA2.out
            simp only [List.length_append, List.length_take, data_length, size_rest9]
            omega
          · have e9 : List.take (x0.size - 9) (List.drop 9 x0.data.toList) = List.drop 9 x0.data.toList := List.take_of_length_le (by rw [List.length_drop, data_length]; omega)
            rw [← HT.out, Lib.extract_data, e9]
          · refine Or.inr ?_
            have := HI1.out
            rw [Lib.strCells_eq, Lib.extract_data, List.drop_zero, Nat.sub_zero, ← Lib.byteCells_append] at this
            exact this
      · have c9 : (bt x0 8 == 9) = false := by simp [h9]
        rw [if_neg (by omega)] at HT'
        have c0 : wr.cell? ⟨w.heap.size, 0, none⟩ = some (.int .i64 0) := (blk_cell HBK.out 0).trans rfl
        have c1 : wr.cell? ⟨w.heap.size, 1, none⟩ = some (.int .i64 0) := (blk_cell HBK.out 1).trans rfl
        have c2 : wr.cell? ⟨w.heap.size, 2, none⟩ = some (.string ⟨#[]⟩) := (blk_cell HBK.out 2).trans rfl
        by_cases h7 : bt x0 8 ≤ 8
        · rw [if_pos (by omega)] at HT'
          have HT := Aside0.mk HT'
          have Hbl := Aside0.mk hbl
          clear hbl HT' h9 c0 c1 c2
          have d7 : decide (bt x0 8 ≤ 8) = true := decide_eq_true h7
          go_wp2_with (go_at_call 35; refine (H.writeString (w.heap.size + 1) (w.heap.size + 1) (Lib.byteCells acc) _ wr HI.out ?c1 ?c2).mono ?_)
          case c1 => rw [Lib.byteCells_length]; have := HA2.out; simp; omega
          case c2 => have := HB.out.size; simpa using this
          rintro e w1 ⟨rfl, hb1, hb2⟩
          have HI1 := Aside0.mk (show Lib.IsBuilder 66 5 (w.heap.size + 1) (w.heap.size + 1) (Lib.byteCells (acc ++ x0.data.toList.take (x0.data.toList.getD 8 0).toNat)) w1.drew from by
            refine Or.inr (Lib.BuilderAt.drew ?_)
            have := hb1
            rw [Lib.strCells_eq, Lib.extract_data, List.drop_zero, Nat.sub_zero, ← Lib.byteCells_append, Hbl.out] at this
            simpa using this)
          have HB1 := Aside0.mk (show Below (w.heap.size + 1) (w.alloc (.cells #[.int .i64 0, .int .i64 0, .string ⟨#[]⟩] 34)) w1.drew from (HB.out.trans (hb2.mono (Nat.le_refl _))).drew)
          clear hb1 hb2 HI HB HW HBK
          obtain ⟨tx, htx⟩ : ∃ tx : ByteArray, tx = ⟨(acc ++ x0.data.toList.take (x0.data.toList.getD 8 0).toNat).toArray⟩ := ⟨_, rfl⟩
          have Htx := Aside0.mk htx
          clear htx
          have e9 := eq_true (show (9 : Int) ≤ (x0.size : Int) by omega)
          go_wp2
          refine start_ (n := 7) (S := fun w' => True) (ds := []) #[false, false, false, false, false, false, false] (by kernel_rfl) rfl rfl trivial (fun hHeld => ?_)
          generalize w1.drew = w2 at HI1 HB1 hHeld ⊢
          refine pure_ (i := 2) (N := some 33) (v := ?_) (a' := ?_) #[false, false, true, false, false, false, false] rfl rfl (by kernel_rfl) (fun _ _ _ h => h) (Or.inl ⟨by rfl, ?_⟩) ?_ ?_
          rotate_left
          · intro w'
            go_simp
            with_reducible rfl
          rotate_left
          · simp only [Act.put, List.setIfInBounds_toArray, List.set_cons_zero, List.set_cons_succ, i64_w, i32_w]
            rfl
          refine pure_ (i := 3) (N := some 34) (v := ?_) (a' := ?_) #[false, false, true, true, false, false, false] rfl rfl (by kernel_rfl) (fun _ _ _ h => h) (Or.inl ⟨by rfl, ?_⟩) ?_ ?_
          rotate_left
          · intro w'
            go_simp
            with_reducible rfl
          rotate_left
          · simp only [Act.put, List.setIfInBounds_toArray, List.set_cons_zero, List.set_cons_succ, i64_w, i32_w]
            rfl
          refine one_ (i := 0) (N := some 31) #[true, false, true, true, false, false, false] rfl rfl (by kernel_rfl) (by decide) (fun K hK => ?_)
          refine goes_ Try.func36 (by kernel_rfl) rfl #[.pointer (some ⟨w.heap.size + 1, 0, none⟩)] (by rfl) rfl rfl (by (try simp only [List.map_toArray, List.map_cons, List.map_nil]); first | done | rfl) ?_
          with_reducible refine (H.Builder_String_any (w.heap.size + 1) (w.heap.size + 1) _ w2 HI1.out (by have := HB1.out.size; simpa using this)).mono ?_
          rintro e w3 ⟨he, hb3⟩
          rw [← Htx.out] at he
          subst he
          refine ⟨_, rfl, ?_⟩
          have HB3 := Aside0.mk (HB1.out.trans hb3)
          clear hb3
          refine hK.out _ _ trivial (fun hHeld => ?_)
          clear hK K
          refine norm_ (a' := ?_) ?_ ?_
          rotate_left
          · show Act.put _ (some 31) _ = _
            simp only [Act.put, List.setIfInBounds_toArray, List.set_cons_zero, List.set_cons_succ, i64_w, i32_w]
            rfl
          refine one_ (i := 1) (N := some 32) #[true, true, true, true, false, false, false] rfl rfl (by kernel_rfl) (by decide) (fun K hK => ?_)
          refine goes_ Try.func15 (by kernel_rfl) rfl #[.string tx] (by rfl) rfl rfl (by (try simp only [List.map_toArray, List.map_cons, List.map_nil]); first | done | rfl) ?_
          with_reducible refine (keys_Text.calls _ 2 0 _ w3 rfl).mono ?_
          rintro e w4 ⟨rfl, hb4⟩
          refine ⟨_, rfl, ?_⟩
          have hs4 : w.heap.size + 1 ≤ w3.heap.size := by have := HB3.out.size; simpa using this
          have HB4 := Aside0.mk (HB3.out.trans (hb4.mono hs4))
          clear hb4 hs4
          refine hK.out _ _ trivial (fun hHeld => ?_)
          clear hK K
          refine norm_ (a' := ?_) ?_ ?_
          rotate_left
          · show Act.put _ (some 32) _ = _
            simp only [Act.put, List.setIfInBounds_toArray, List.set_cons_zero, List.set_cons_succ, i64_w, i32_w]
            rfl
          refine one_ (i := 4) (N := none) #[true, true, true, true, true, false, false] rfl rfl (by kernel_rfl) (by decide) (fun K hK => ?_)
          have HBK := Aside0.mk (show w4.heap[w.heap.size]? = some (.cells #[.int .i64 0, .int .i64 0, .string ⟨#[]⟩] 34 (0, 0)) from (HB4.out.block _ (by omega)).trans (blk_new _ _))
          have hs24 : w4.cell? ⟨w.heap.size, 0, none⟩ = some (.int .i64 0) := (blk_cell HBK.out 0).trans rfl
          have hfs24 := blk_frozen HBK.out 0
          have hs25 : w4.cell? ⟨w.heap.size, 1, none⟩ = some (.int .i64 0) := (blk_cell HBK.out 1).trans rfl
          have hfs25 := blk_frozen HBK.out 1
          have hs26 : w4.cell? ⟨w.heap.size, 2, none⟩ = some (.string ⟨#[]⟩) := (blk_cell HBK.out 2).trans rfl
          have hfs26 := blk_frozen HBK.out 2
          refine skip_ (w1 := ?_) (by rfl) rfl ?_ ?_
          rotate_left
          · go_simp
            rfl
          refine hK.out _ _ trivial (fun hHeld => ?_)
          clear hK K
          refine pure_ (i := 5) (N := some 3) (v := ?_) (a' := ?_) #[true, true, true, true, true, true, false] rfl rfl (by kernel_rfl) (fun _ _ _ h => h) (Or.inl ⟨by rfl, ?_⟩) ?_ ?_
          rotate_left
          · intro w'
            go_simp
            with_reducible rfl
          rotate_left
          · simp only [Act.put, List.setIfInBounds_toArray, List.set_cons_zero, List.set_cons_succ, i64_w, i32_w]
            rfl
          refine pure_ (i := 6) (N := some 4) (v := ?_) (a' := ?_) #[true, true, true, true, true, true, true] rfl rfl (by kernel_rfl) (fun _ _ _ h => h) (Or.inl ⟨by rfl, ?_⟩) ?_ ?_
          rotate_left
          · intro w'
            go_simp
            with_reducible rfl
          rotate_left
          · simp only [Act.put, List.setIfInBounds_toArray, List.set_cons_zero, List.set_cons_succ, i64_w, i32_w]
            rfl
          refine done_ (by kernel_rfl) ?_
          try go_wp2
          refine bodyPost_ret (results_ctt rfl _ _ w.heap.size 34 #[.int .i64 2, .int .i64 0, .string tx] (0, 0) _ rfl (by refine blk_put (cs := #[.int .i64 2, .int .i64 0, .string ⟨#[]⟩]) ?_ 2 _ rfl; refine blk_put (cs := #[.int .i64 2, .int .i64 0, .string ⟨#[]⟩]) ?_ 1 _ rfl; refine blk_put (cs := #[.int .i64 0, .int .i64 0, .string ⟨#[]⟩]) ?_ 0 _ rfl; exact HBK.out) Try.underlying34 rfl (by kernel_rfl)) rfl ?_
          have hfin := HR.out
          rw [← HT.out] at hfin
          simp only [Prod.mk.injEq] at hfin
          obtain ⟨e1, e2, e3, e4, e5⟩ := hfin
          have e6 : x0.extract 9 x0.size = r4 := by
            rw [← e4, Lib.extract_eq, List.take_of_length_le (by rw [List.length_drop, data_length]; omega)]
          rw [← Htx.out] at e3
          subst e1 e2 e3 e5 e6
          refine ⟨rfl, ?_⟩
          have hb := HB4.out
          exact (((((below_alloc (Below.refl _ _) _).trans (hb.mono (by omega))).setCell (Nat.le_refl _) _).setCell (Nat.le_refl _) _).setCell (Nat.le_refl _) _)
        · have hT : res = ([], [], false) := by rw [← HT', if_neg (by omega)]
          clear hbl HT' h9
          have d7 : decide (bt x0 8 ≤ 8) = false := decide_eq_false h7
          have f0 := blk_frozen HBK.out 0
          have f1 := blk_frozen HBK.out 1
          have f2 := blk_frozen HBK.out 2
          have HR' := Aside0.mk (show (0, 0, (⟨#[]⟩ : ByteArray), (⟨#[]⟩ : ByteArray), false) = (r1, r2, r3, r4, r5) from by rw [← HR.out, hT]; rfl)
          clear hT
          go_wp2
          refine bodyPost_ret (results_ctt rfl _ _ w.heap.size 34 #[.int .i64 0, .int .i64 0, .string ⟨#[]⟩] (0, 0) _ rfl (by refine blk_put (cs := #[.int .i64 0, .int .i64 0, .string ⟨#[]⟩]) ?_ 2 _ rfl; refine blk_put (cs := #[.int .i64 0, .int .i64 0, .string ⟨#[]⟩]) ?_ 1 _ rfl; refine blk_put (cs := #[.int .i64 0, .int .i64 0, .string ⟨#[]⟩]) ?_ 0 _ rfl; exact HBK.out) Try.underlying34 rfl (by kernel_rfl)) rfl ?_
          have hfin := HR'.out
          simp only [Prod.mk.injEq] at hfin
          obtain ⟨rfl, rfl, rfl, rfl, rfl⟩ := hfin
          exact ⟨rfl, ((HW.out.setCell (Nat.le_refl _) _).setCell (Nat.le_refl _) _).setCell (Nat.le_refl _) _⟩
    · have hT : res = ([], [], false) := by rw [← HT.out, takeK, if_pos (by rw [data_length]; omega)]
      have c0 : wr.cell? ⟨w.heap.size, 0, none⟩ = some (.int .i64 0) := (blk_cell HBK.out 0).trans rfl
      have c1 : wr.cell? ⟨w.heap.size, 1, none⟩ = some (.int .i64 0) := (blk_cell HBK.out 1).trans rfl
      have c2 : wr.cell? ⟨w.heap.size, 2, none⟩ = some (.string ⟨#[]⟩) := (blk_cell HBK.out 2).trans rfl
      have f0 := blk_frozen HBK.out 0
      have f1 := blk_frozen HBK.out 1
      have f2 := blk_frozen HBK.out 2
      have HR' := Aside0.mk (show (0, 0, (⟨#[]⟩ : ByteArray), (⟨#[]⟩ : ByteArray), false) = (r1, r2, r3, r4, r5) from by rw [← HR.out, hT]; rfl)
      clear hT hx8
      have d8 : decide ((8 : Int) < (x0.size : Int)) = false := decide_eq_false (by omega)
      go_wp2
      refine bodyPost_ret (results_ctt rfl _ _ w.heap.size 34 #[.int .i64 0, .int .i64 0, .string ⟨#[]⟩] (0, 0) _ rfl (by refine blk_put (cs := #[.int .i64 0, .int .i64 0, .string ⟨#[]⟩]) ?_ 2 _ rfl; refine blk_put (cs := #[.int .i64 0, .int .i64 0, .string ⟨#[]⟩]) ?_ 1 _ rfl; refine blk_put (cs := #[.int .i64 0, .int .i64 0, .string ⟨#[]⟩]) ?_ 0 _ rfl; exact HBK.out) Try.underlying34 rfl (by kernel_rfl)) rfl ?_
      have hfin := HR'.out
      simp only [Prod.mk.injEq] at hfin
      obtain ⟨rfl, rfl, rfl, rfl, rfl⟩ := hfin
      exact ⟨rfl, ((HW.out.setCell (Nat.le_refl _) _).setCell (Nat.le_refl _) _).setCell (Nat.le_refl _) _⟩
end Go.Proofs.Ytephhhflifjcmaa.K
