/- Plain law: what is taken from the front of a key; the program's takeNumber, takeText and Get come to it. -/
import Derived.Test.YtephhhflifjcmaaNEnc
import Derived.Test.YtephhhflifjcmaaGGet
set_option linter.unusedVariables false
set_option linter.unusedSimpArgs false
namespace Go.Proofs.Ytephhhflifjcmaa.M
open Go.RowKit Go.Proofs.Ytephhhflifjcmaa.K Go.Proofs.YtephhhflifjcmaaW.PrintWords Go.Proofs.YtephhhflifjcmaaW.PrintLast

/-- A byte, turned or not. -/
def turn (x b : Int) : Int := Go.bits .xor .u8 b x
theorem turn_range {x b : Int} (hx : x = 0 ∨ x = 255) (h0 : 0 ≤ b) (h1 : b < 256) : 0 ≤ turn x b ∧ turn x b < 256 := by
  unfold turn
  rcases hx with rfl | rfl
  · rw [xor_none h0 h1]; omega
  · rw [xor_full h0 h1]; omega
theorem bt_get (s : ByteArray) (i : Nat) : bt s (i : Int) = (bytesOf s).getD i 0 := by
  rw [← rd_bytesOf]
  simp [rd]
/-- What a number that was read comes to. -/
def numR (s : ByteArray) (K : Nat) (x m : Int) : Int × Int × ByteArray × ByteArray × Bool :=
  (1, if x > 0 then wrap64 (Go.bits .xor .u64 18446744073709551615 m) else wrap64 m, emp, s.extract (1 + K) s.size, true)
theorem or_byte (m : Nat) (b : Int) (hm : m < 72057594037927936) (h0 : 0 ≤ b) (h1 : b < 256) :
    Go.bits .or .u64 (IntKind.u64.wrap ((m : Int) * 256)) (IntKind.u64.wrap b) = ((m * 256 + b.toNat : Nat) : Int) := by
  rw [wrap_u64, wrap_u64, show ((m : Int) * 256) % 18446744073709551616 = ((m * 256 : Nat) : Int) by omega, show b % 18446744073709551616 = ((b.toNat : Nat) : Int) by omega]
  rw [u64_or_nat _ _ (by omega) (by omega), nat_join 8 (m * 256) b.toNat (by omega) (by omega)]
theorem takeNumber_loop (s : ByteArray) (x : Int) (hx : x = 0 ∨ x = 255) (K : Nat) (hK : K ≤ 8) (hs : K + 1 ≤ s.size) (hz : s.size ≤ 140737488355328) : ∀ (d i m : Nat), i + d = K → m < 256 ^ i →
    Ev (fun k => keys_takeNumber.l0 k s (K : Int) x (m : Int) (K : Int) (i : Int)) (numR s K x (valF (m : Int) ((((bytesOf s).drop (1 + i)).take d).map (turn x))))
  | 0, i, m, h, hm => by
    refine ⟨1, fun k hk => ?_⟩
    obtain ⟨k, rfl⟩ : ∃ n, k = n + 1 := ⟨k - 1, by omega⟩
    have e1 : wrap64 (1 + (K : Int)) = ((1 + K : Nat) : Int) := by rw [w64 ⟨by omega, by omega⟩]; omega
    have e2 : (((1 + K : Nat) : Int)).toNat = 1 + K := Int.toNat_natCast _
    simp only [keys_takeNumber.l0]
    rw [if_neg (by omega), e1]
    simp only [List.take_zero, List.map_nil, valF, keys_Int.f, Option.bind_some, numR, emp, e2]
    rcases hx with rfl | rfl
    · simp
      omega
    · simp
      omega
  | d + 1, i, m, h, hm => by
    have e1 : wrap64 (1 + (i : Int)) = ((1 + i : Nat) : Int) := by rw [w64 ⟨by omega, by omega⟩]; omega
    have e4 : wrap64 ((i : Int) + 1) = ((i + 1 : Nat) : Int) := by rw [w64 ⟨by omega, by omega⟩]; omega
    have hlen : 1 + i < (bytesOf s).length := by rw [bytesOf_length]; omega
    have hd : (bytesOf s).drop (1 + i) = (bytesOf s)[1 + i] :: (bytesOf s).drop (1 + (i + 1)) := by
      rw [List.drop_eq_getElem_cons hlen]; congr 1
    have hb : bt s ((1 + i : Nat) : Int) = (bytesOf s)[1 + i] := by rw [bt_get, List.getD_eq_getElem?_getD, List.getElem?_eq_getElem hlen]; rfl
    have hr := bt_range s ((1 + i : Nat) : Int)
    rw [hb] at hr
    obtain ⟨t0, t1⟩ := turn_range hx hr.1 (by omega)
    have hm7 : m < 72057594037927936 := Nat.lt_of_lt_of_le hm (show 256 ^ i ≤ 256 ^ 7 from Nat.pow_le_pow_right (by omega) (by omega))
    have ho := or_byte m (turn x (bytesOf s)[1 + i]) hm7 t0 t1
    have ih := takeNumber_loop s x hx K hK hs hz d (i + 1) (m * 256 + (turn x (bytesOf s)[1 + i]).toNat) (by omega) (by rw [Nat.pow_succ]; omega)
    rw [hd, List.take_succ_cons, List.map_cons, valF, show (m : Int) * 256 + turn x (bytesOf s)[1 + i] = ((m * 256 + (turn x (bytesOf s)[1 + i]).toNat : Nat) : Int) by omega]
    refine Ev.step (fun k => ?_) ih
    simp only [keys_takeNumber.l0]
    rw [if_pos (by omega), e1, if_pos (show (0 : Int) ≤ ((1 + i : Nat) : Int) by omega), if_pos (show ((1 + i : Nat) : Int) < (s.size : Int) by omega), hb, e4]
    have ho' := ho
    unfold turn at ho'
    rw [ho']
    rfl
def noneR : Int × Int × ByteArray × ByteArray × Bool := (0, 0, emp, emp, false)
/-- How many bytes follow a number's head. -/
def follow (c : Int) : Nat := (if c < 128 then 127 - c else c - 128).toNat
def flag (c : Int) : Int := if c < 128 then 255 else 0
theorem flag_or (c : Int) : flag c = 0 ∨ flag c = 255 := by unfold flag; split <;> simp
/-- What takeNumber tells. -/
def takeN (s : ByteArray) : Int × Int × ByteArray × ByteArray × Bool :=
  if follow (bt s 0) > 8 ∨ follow (bt s 0) + 1 > s.size then noneR
  else numR s (follow (bt s 0)) (flag (bt s 0)) (valF 0 ((((bytesOf s).drop 1).take (follow (bt s 0))).map (turn (flag (bt s 0)))))
theorem takeNumber_tells (s : ByteArray) (h0 : 0 < s.size) (hz : s.size ≤ 140737488355328) : Ev (fun k => keys_takeNumber.f k s) (takeN s) := by
  have hr := bt_range s 0
  generalize hc : bt s 0 = c at hr
  have e0 : wrap64 c = c := w64 ⟨by omega, by omega⟩
  have e1 : wrap64 (c - 128) = c - 128 := w64 ⟨by omega, by omega⟩
  have e2 : wrap64 (127 - c) = 127 - c := w64 ⟨by omega, by omega⟩
  have e3 : wrap64 ((s.size : Int) - 1) = (s.size : Int) - 1 := w64 ⟨by omega, by omega⟩
  have key : ∀ (K : Nat) (x : Int), (x = 0 ∨ x = 255) → Ev (fun k => keys_takeNumber.j0 k s (K : Int) x 0 0 (⟨#[]⟩ : ByteArray)) (if K > 8 ∨ K + 1 > s.size then noneR else numR s K x (valF 0 ((((bytesOf s).drop 1).take K).map (turn x)))) := by
    intro K x hx
    by_cases h8 : K > 8
    · rw [if_pos (.inl h8)]
      refine ⟨2, fun k hk => ?_⟩
      obtain ⟨k, rfl⟩ : ∃ n, k = n + 2 := ⟨k - 2, by omega⟩
      simp only [keys_takeNumber.j0]
      rw [if_pos (by omega)]
      simp only [keys_takeNumber.j1]
      rfl
    · by_cases h9 : K + 1 > s.size
      · rw [if_pos (.inr h9)]
        refine ⟨2, fun k hk => ?_⟩
        obtain ⟨k, rfl⟩ : ∃ n, k = n + 2 := ⟨k - 2, by omega⟩
        simp only [keys_takeNumber.j0]
        rw [if_neg (by omega), e3, decide_eq_true (show (K : Int) > (s.size : Int) - 1 by omega)]
        simp only [keys_takeNumber.j1]
        rfl
      · rw [if_neg (by omega)]
        refine Ev.step (f := fun k => keys_takeNumber.j1 k s (K : Int) x false 0 0 (⟨#[]⟩ : ByteArray)) (fun k => ?_) ?_
        · simp only [keys_takeNumber.j0]
          rw [if_neg (by omega), e3, decide_eq_false (show ¬ (K : Int) > (s.size : Int) - 1 by omega)]
        · refine Ev.step (f := fun k => keys_takeNumber.l0 k s (K : Int) x ((0 : Nat) : Int) (K : Int) ((0 : Nat) : Int)) (fun k => ?_) (takeNumber_loop s x hx K (by omega) (by omega) hz K 0 0 (by omega) (by simp))
          simp only [keys_takeNumber.j1]
          rfl
  have hk := key (follow c) (flag c) (flag_or c)
  unfold takeN
  rw [hc]
  refine Ev.congr (fun k => ?_) hk
  simp only [keys_takeNumber.f]
  rw [if_pos (by omega), hc, e0, e1, e2]
  unfold follow flag
  by_cases h : c < 128
  · rw [if_pos (by omega), if_pos h, if_pos h, Int.toNat_of_nonneg (by omega)]
  · rw [if_neg (by omega), if_neg h, if_neg h, Int.toNat_of_nonneg (by omega)]

/-! ### What was made is taken apart again -/
theorem extract_bytes (s : ByteArray) (i : Nat) : bytesOf (s.extract i s.size) = (bytesOf s).drop i := bytesOf_rest s i
theorem nums_ext {s : ByteArray} {l : List Int} (h : bytesOf s = l) : s = strOfNums l := by rw [← h, nums_bytesOf]
theorem map_turn_none {l : List Int} (h : Bytes l) : l.map (turn 0) = l := by
  conv => rhs; rw [← List.map_id l]
  exact List.map_congr_left (fun x hx => xor_none (h x hx).1 (h x hx).2)
theorem map_turn_full {l : List Int} (h : Bytes l) : (l.map (255 - ·)).map (turn 255) = l := by
  rw [List.map_map]
  conv => rhs; rw [← List.map_id l]
  refine List.map_congr_left (fun x hx => ?_)
  have := h x hx
  show turn 255 (255 - x) = x
  unfold turn
  rw [xor_full (by omega) (by omega)]
  omega
theorem bt_zero {s : ByteArray} {c : Int} {l : List Int} (h : bytesOf s = c :: l) : bt s 0 = c := by
  have := bt_get s 0
  rw [h] at this
  exact this
theorem size_cons {s : ByteArray} {c : Int} {l : List Int} (h : bytesOf s = c :: l) : s.size = l.length + 1 := by rw [size_bytes, h, List.length_cons]
/-- A number that stands at the front. -/
theorem takeN_num (n : Int) (hn : I64 n) (x : List Int) (s : ByteArray) (h : bytesOf s = numB n ++ x) : takeN s = (1, n, emp, strOfNums x, true) ∧ bt s 0 ≠ 160 := by
  have hm := mag_lt hn
  have hm2 : mag n < 18446744073709551616 := by omega
  have hb := nb_le8 hm2
  have hlt := nb_lt hm2
  have hv := val_be (nb (mag n)) (mag n) 0
  rw [Nat.zero_mul, Nat.zero_add, Nat.mod_eq_of_lt hlt] at hv
  have hv' : valF 0 (be (nb (mag n)) (mag n)) = ((mag n : Nat) : Int) := hv
  by_cases h0 : n < 0
  · have hN : numB n = (127 - (nb (mag n) : Int)) :: (be (nb (mag n)) (mag n)).map (255 - ·) := by unfold numB; rw [if_pos h0]
    rw [hN, List.cons_append] at h
    have hc := bt_zero h
    have hz := size_cons h
    rw [List.length_append, List.length_map, be_length] at hz
    have hf : follow (bt s 0) = nb (mag n) := by rw [hc]; unfold follow; rw [if_pos (by omega)]; omega
    have hg : flag (bt s 0) = 255 := by rw [hc]; unfold flag; rw [if_pos (by omega)]
    refine ⟨?_, by omega⟩
    unfold takeN
    rw [hf, hg, if_neg (by omega), h]
    rw [List.drop_succ_cons, List.drop_zero, List.take_left' (by rw [List.length_map, be_length]), map_turn_full (be_bytes _ _), hv']
    unfold numR
    rw [if_pos (by omega), xor_all (by omega) (by omega)]
    have e1 : wrap64 (18446744073709551615 - ((mag n : Nat) : Int)) = n := by
      obtain ⟨h1, h2⟩ := hn
      unfold wrap64 mag
      rw [if_pos h0]
      omega
    have e2 : s.extract (1 + nb (mag n)) s.size = strOfNums x := by
      refine nums_ext ?_
      rw [extract_bytes, h, Nat.add_comm, List.drop_succ_cons, List.drop_left' (by rw [List.length_map, be_length])]
    rw [e1, e2]
  · have hN : numB n = (128 + (nb (mag n) : Int)) :: be (nb (mag n)) (mag n) := by unfold numB; rw [if_neg h0]
    rw [hN, List.cons_append] at h
    have hc := bt_zero h
    have hz := size_cons h
    rw [List.length_append, be_length] at hz
    have hf : follow (bt s 0) = nb (mag n) := by rw [hc]; unfold follow; rw [if_neg (by omega)]; omega
    have hg : flag (bt s 0) = 0 := by rw [hc]; unfold flag; rw [if_neg (by omega)]
    refine ⟨?_, by omega⟩
    unfold takeN
    rw [hf, hg, if_neg (by omega), h]
    rw [List.drop_succ_cons, List.drop_zero, List.take_left' (be_length _ _), map_turn_none (be_bytes _ _), hv']
    unfold numR
    rw [if_neg (by omega)]
    have e1 : wrap64 ((mag n : Nat) : Int) = n := by
      obtain ⟨h1, h2⟩ := hn
      unfold wrap64 mag
      rw [if_neg h0]
      omega
    have e2 : s.extract (1 + nb (mag n)) s.size = strOfNums x := by
      refine nums_ext ?_
      rw [extract_bytes, h, Nat.add_comm, List.drop_succ_cons, List.drop_left' (be_length _ _)]
    rw [e1, e2]

/-! ### Texts: over lists of whole numbers -/
def ints (l : List UInt8) : List Int := l.map fun b => (b.toNat : Int)
theorem ints_bytesOf (s : ByteArray) : bytesOf s = ints s.data.toList := rfl
def takeI : Nat → List Int → List Int → List Int × List Int × Bool
  | 0, _, _ => ([], [], false)
  | k + 1, acc, s =>
    if s.length ≤ 8 then ([], [], false)
    else if s.getD 8 0 = 9 then takeI k (acc ++ s.take 8) (s.drop 9)
    else if s.getD 8 0 ≤ 8 then (acc ++ s.take (s.getD 8 0).toNat, s.drop 9, true)
    else ([], [], false)
theorem takeK_ints : ∀ (k : Nat) (acc s : List UInt8), takeI k (ints acc) (ints s) = (ints (takeK k acc s).1, ints (takeK k acc s).2.1, (takeK k acc s).2.2)
  | 0, acc, s => rfl
  | k + 1, acc, s => by
    have hl : (ints s).length = s.length := by simp [ints]
    have hg : (ints s).getD 8 0 = ((s.getD 8 0).toNat : Int) := by
      rw [List.getD_eq_getElem?_getD, List.getD_eq_getElem?_getD, ints, List.getElem?_map]
      cases s[8]? <;> rfl
    rw [takeI, takeK, hl, hg]
    by_cases h8 : s.length ≤ 8
    · rw [if_pos h8, if_pos h8]; rfl
    · rw [if_neg h8, if_neg h8]
      by_cases h9 : (s.getD 8 0).toNat = 9
      · rw [if_pos (by omega), if_pos h9, ← takeK_ints k]
        congr 1
        · simp [ints, List.map_take]
        · simp [ints, List.map_drop]
      · by_cases h7 : (s.getD 8 0).toNat ≤ 8
        · rw [if_neg (by omega), if_pos (by omega), if_neg h9, if_pos h7]
          simp [ints, List.map_take, List.map_drop]
        · rw [if_neg (by omega), if_neg (by omega), if_neg h9, if_neg h7]; rfl
theorem takeI_grp : ∀ (k : Nat) (t acc x : List Int), Bytes t → t.length ≤ 8 * k → takeI (k + 1) acc (grp 0 t ++ x) = (acc ++ t, x, true)
  | k, t, acc, x, ht, h => by
    rw [grp_open t 0 (by omega)]
    simp only [Nat.sub_zero, Nat.zero_add]
    have hl8 : (t.take 8 ++ List.replicate (8 - t.length) (0 : Int)).length = 8 := by rw [List.length_append, List.length_take, List.length_replicate]; omega
    generalize hA : t.take 8 ++ List.replicate (8 - t.length) (0 : Int) = A at hl8
    by_cases h8 : t.length ≤ 8
    · rw [if_pos h8, takeI]
      have hlen : ¬ (A ++ [(t.length : Int)] ++ x).length ≤ 8 := by simp only [List.length_append, List.length_singleton, hl8]; omega
      have hg : (A ++ [(t.length : Int)] ++ x).getD 8 0 = (t.length : Int) := by
        rw [List.append_assoc, List.getD_eq_getElem?_getD, List.getElem?_append_right (by omega), hl8]
        rfl
      rw [if_neg hlen, hg, if_neg (by omega), if_pos (by omega), Int.toNat_natCast]
      have e1 : (A ++ [(t.length : Int)] ++ x).take t.length = t := by
        rw [List.append_assoc, List.take_append_of_le_length (by omega), ← hA, List.take_append_of_le_length (by rw [List.length_take]; omega), List.take_take, Nat.min_eq_left h8, List.take_length]
      have e2 : (A ++ [(t.length : Int)] ++ x).drop 9 = x := by
        rw [List.drop_left' (by rw [List.length_append, hl8]; rfl)]
      rw [e1, e2]
    · rw [if_neg h8, takeI]
      obtain ⟨m, rfl⟩ : ∃ m, k = m + 1 := ⟨k - 1, by omega⟩
      have hlen : ¬ (A ++ 9 :: grp 0 (t.drop 8) ++ x).length ≤ 8 := by simp only [List.length_append, List.length_cons, hl8]; omega
      have hg : (A ++ 9 :: grp 0 (t.drop 8) ++ x).getD 8 0 = 9 := by
        rw [List.append_assoc, List.getD_eq_getElem?_getD, List.getElem?_append_right (by omega), hl8]
        rfl
      rw [if_neg hlen, hg, if_pos rfl]
      have e1 : (A ++ 9 :: grp 0 (t.drop 8) ++ x).take 8 = t.take 8 := by
        rw [List.append_assoc, List.take_append_of_le_length (by omega), List.take_of_length_le (by omega), ← hA, show 8 - t.length = 0 by omega, List.replicate_zero, List.append_nil]
      have e2 : (A ++ 9 :: grp 0 (t.drop 8) ++ x).drop 9 = grp 0 (t.drop 8) ++ x := by
        rw [List.append_assoc, show (9 :: grp 0 (t.drop 8)) ++ x = [9] ++ (grp 0 (t.drop 8) ++ x) from rfl, ← List.append_assoc, List.drop_left' (by rw [List.length_append, hl8]; rfl)]
      rw [e1, e2, takeI_grp m (t.drop 8) _ x (fun y hy => ht y (List.mem_of_mem_drop hy)) (by rw [List.length_drop]; omega), List.append_assoc, List.take_append_drop]
theorem takeI_more : ∀ (k : Nat) (acc s : List Int), s.length ≤ 9 * k → takeI (k + 1) acc s = takeI k acc s
  | 0, acc, s, h => by
    show (if s.length ≤ 8 then ([], [], false) else _) = _
    rw [if_pos (by omega)]; rfl
  | k + 1, acc, s, h => by
    rw [takeI]
    conv => rhs; rw [takeI]
    by_cases h8 : s.length ≤ 8
    · rw [if_pos h8, if_pos h8]
    · rw [if_neg h8, if_neg h8, takeI_more k _ _ (by rw [List.length_drop]; omega)]
theorem takeI_fuel (k j : Nat) (acc s : List Int) (h : s.length ≤ 9 * k) : takeI (k + j) acc s = takeI k acc s := by
  induction j with
  | zero => rfl
  | succ j ih => rw [← Nat.add_assoc, takeI_more _ _ _ (by omega), ih]
theorem grp_long : ∀ (s : List Int) (j : Nat), s.length ≤ (grp j s).length
  | [], j => by simp
  | c :: s, j => by
    rw [grp]
    have h1 := grp_long s (j + 1)
    have h2 := grp_long s 1
    split
    · simp only [List.length_cons]; omega
    · simp only [List.length_cons]; omega
theorem ints_array (l : List UInt8) : (⟨l.toArray⟩ : ByteArray) = strOfNums (ints l) := by
  refine nums_ext ?_
  unfold bytesOf ints
  simp
theorem nums_size (l : List Int) : (strOfNums l).size = l.length := by
  rw [← data_length, nums_data, List.length_map]
/-- What takeText tells. -/
def takeT (s : ByteArray) : Int × Int × ByteArray × ByteArray × Bool :=
  (if (takeI (s.size + 1) [] ((bytesOf s).drop 1)).2.2 = true then 2 else 0, 0, strOfNums (takeI (s.size + 1) [] ((bytesOf s).drop 1)).1, strOfNums (takeI (s.size + 1) [] ((bytesOf s).drop 1)).2.1, (takeI (s.size + 1) [] ((bytesOf s).drop 1)).2.2)
theorem takeText_tells (s : ByteArray) (h0 : 0 < s.size) (hz : s.size < 140737488355328) : keys_takeText.f s = some (takeT s) := by
  have h := takeK_ints (s.size + 1) [] (s.data.toList.drop 1)
  have e : ints (s.data.toList.drop 1) = (bytesOf s).drop 1 := by rw [ints_bytesOf, ints, ints, List.map_drop]
  rw [e, show ints [] = [] from rfl] at h
  unfold keys_takeText.f takeT
  rw [if_pos ⟨h0, hz⟩, h, ints_array, ints_array]
theorem takeT_txt (t : ByteArray) (x : List Int) (s : ByteArray) (h : bytesOf s = txtB t ++ x) : takeT s = (2, 0, t, strOfNums x, true) ∧ bt s 0 = 160 := by
  have h' : bytesOf s = 160 :: (grp 0 (bytesOf t) ++ x) := h
  have hz := size_cons h'
  rw [List.length_append] at hz
  have hg := grp_long (bytesOf t) 0
  refine ⟨?_, bt_zero h'⟩
  unfold takeT
  rw [h', List.drop_succ_cons, List.drop_zero]
  have h2 := takeI_grp (s.size) (bytesOf t) [] x (bytesOf_bytes t) (by omega)
  rw [h2, List.nil_append, nums_bytesOf]
  rfl

/-! ### All parts of a key -/
def takeP (s : ByteArray) : Int × Int × ByteArray × ByteArray × Bool := if bt s 0 = 160 then takeT s else takeN s
theorem take_tells (s : ByteArray) (h0 : 0 < s.size) (hz : s.size < 140737488355328) : Ev (fun k => keys_Get.take k s) (takeP s) := by
  unfold takeP
  by_cases h : bt s 0 = 160
  · rw [if_pos h]
    refine ⟨0, fun k _ => ?_⟩
    simp only [keys_Get.take]
    rw [if_pos h, takeText_tells s h0 hz]
  · rw [if_neg h]
    refine Ev.congr (fun k => ?_) (takeNumber_tells s h0 (by omega))
    simp only [keys_Get.take]
    rw [if_neg h]
theorem takeI_rest : ∀ (k : Nat) (acc s : List Int), (takeI k acc s).2.1.length ≤ s.length
  | 0, acc, s => by simp [takeI]
  | k + 1, acc, s => by
    rw [takeI]
    split
    · simp
    · split
      · have := takeI_rest k (acc ++ s.take 8) (s.drop 9)
        rw [List.length_drop] at this
        omega
      · split
        · simp
        · simp
theorem takeP_less (s : ByteArray) (h0 : 0 < s.size) : (takeP s).2.2.2.1.size < s.size := by
  unfold takeP
  split
  · unfold takeT
    have := takeI_rest (s.size + 1) [] ((bytesOf s).drop 1)
    rw [List.length_drop, bytesOf_length] at this
    simp only [nums_size]
    omega
  · unfold takeN
    split
    · simp only [noneR, emp]
      exact h0
    · simp only [numR]
      rw [size_rest9]
      omega
theorem wrap64_i64 (n : Int) : I64 (wrap64 n) := by unfold wrap64 I64; omega
theorem takeP_wf (s : ByteArray) : I64 (takeP s).2.1 := by
  unfold takeP
  split
  · unfold takeT I64; simp
  · unfold takeN
    split
    · unfold noneR I64; simp
    · unfold numR
      show I64 (if _ then _ else _)
      split <;> exact wrap64_i64 _
def getL : Nat → List S34 → ByteArray → List S34 × Bool
  | 0, _, _ => ([], false)
  | n + 1, l, s => if s.size = 0 then (l, true) else if (takeP s).2.2.2.2 = true then getL n (l ++ [⟨(takeP s).1, (takeP s).2.1, (takeP s).2.2.1⟩]) (takeP s).2.2.2.1 else ([], false)
theorem getL_tells : ∀ (n : Nat) (l : List S34) (s : ByteArray), s.size < n → l.length + s.size < 4398046511104 → Ev (fun k => keys_Get.l0 k l s) (getL n l s)
  | 0, l, s, h, _ => by omega
  | n + 1, l, s, h, hb => by
    rw [getL]
    by_cases h0 : s.size = 0
    · rw [if_pos h0]
      refine ⟨1, fun k hk => ?_⟩
      obtain ⟨k, rfl⟩ : ∃ n, k = n + 1 := ⟨k - 1, by omega⟩
      simp only [keys_Get.l0]
      rw [if_pos h0]
    · rw [if_neg h0]
      have ht := take_tells s (by omega) (by omega)
      have hless := takeP_less s (by omega)
      generalize takeP s = t at ht hless
      by_cases hok : t.2.2.2.2 = true
      · rw [if_pos hok]
        refine Ev.step (fun k => ?_) (Ev.bind (f := fun k t => if t.2.2.2.2 = true then (if l.length < 4398046511104 then keys_Get.l0 k (l ++ [⟨t.1, t.2.1, t.2.2.1⟩]) t.2.2.2.1 else none) else some ([], false)) ht (Ev.congr (fun k => ?_) (getL_tells n (l ++ [⟨t.1, t.2.1, t.2.2.1⟩]) t.2.2.2.1 (by omega) (by rw [List.length_append, List.length_singleton]; omega))))
        · simp only [keys_Get.l0]
          rw [if_neg h0]
        · rw [if_pos hok, if_pos (by omega)]
      · rw [if_neg hok]
        refine Ev.step (fun k => ?_) (Ev.bind (f := fun k t => if t.2.2.2.2 = true then (if l.length < 4398046511104 then keys_Get.l0 k (l ++ [⟨t.1, t.2.1, t.2.2.1⟩]) t.2.2.2.1 else none) else some ([], false)) ht (Ev.congr (fun k => ?_) (Ev.now ([], false))))
        · simp only [keys_Get.l0]
          rw [if_neg h0]
        · rw [if_neg hok]
theorem getL_wf : ∀ (n : Nat) (l : List S34) (s : ByteArray), Wf l → Wf (getL n l s).1
  | 0, l, s, _ => fun p h => by simp [getL] at h
  | n + 1, l, s, h => by
    rw [getL]
    split
    · exact h
    · split
      · refine getL_wf n _ _ (fun p hp => ?_)
        rcases List.mem_append.1 hp with hp | hp
        · exact h p hp
        · rw [List.mem_singleton.1 hp]
          exact takeP_wf s
      · exact fun p h => by simp at h
/-- What Get tells. -/
def getS (s : ByteArray) : List S34 × Int :=
  if (getL (s.size + 1) [] s).2 = true ∧ putE (getL (s.size + 1) [] s).1 = 0 ∧ putS (getL (s.size + 1) [] s).1 = s then ((getL (s.size + 1) [] s).1, 0) else ([], 70)
theorem get_tells (s : ByteArray) (hz : s.size < 4398046511104) : Ev (fun k => keys_Get.f k s) (getS s) := by
  have h1 := getL_tells (s.size + 1) [] s (by omega) (by simp; omega)
  have h2 := put_tells _ (getL_wf (s.size + 1) [] s (fun p h => by simp at h))
  unfold getS
  generalize getL (s.size + 1) [] s = g at h1 h2
  refine Ev.congr (f := fun k => (keys_Get.l0 k [] s).bind fun t => if t.2 = true then (keys_Put.f k t.1).bind fun u => if u.2 = 0 then (if u.1.toList = s.toList then some (t.1, (0 : Int)) else some ([], 70)) else some ([], 70) else some ([], 70)) (fun k => by simp only [keys_Get.f]) ?_
  refine Ev.bind (f := fun k t => if t.2 = true then (keys_Put.f k t.1).bind fun u => if u.2 = 0 then (if u.1.toList = s.toList then some (t.1, (0 : Int)) else some ([], 70)) else some ([], 70) else some ([], 70)) h1 ?_
  by_cases hg : g.2 = true
  · refine Ev.congr (fun k => by rw [if_pos hg]) (Ev.bind (f := fun _ u => if u.2 = 0 then (if u.1.toList = s.toList then some (g.1, (0 : Int)) else some ([], 70)) else some ([], 70)) h2 ?_)
    refine ⟨0, fun k _ => ?_⟩
    show (if putE g.1 = 0 then (if (putS g.1).toList = s.toList then some (g.1, (0 : Int)) else some ([], 70)) else some ([], 70)) = _
    by_cases h3 : putE g.1 = 0
    · rw [if_pos h3]
      by_cases h4 : putS g.1 = s
      · rw [if_pos ((toList_eq _ _).2 h4), if_pos ⟨hg, h3, h4⟩]
      · rw [if_neg (fun h => h4 ((toList_eq _ _).1 h)), if_neg (fun h => h4 h.2.2)]
    · rw [if_neg h3, if_neg (fun h => h3 h.2.1)]
  · refine ⟨0, fun k _ => ?_⟩
    show (if g.2 = true then _ else some (([] : List S34), (70 : Int))) = _
    rw [if_neg hg, if_neg (fun h => hg h.1)]
/-- A part that may be a part. -/
theorem part_cases {p : S34} (h : errP p = 0) : (p = ⟨1, p.f1, emp⟩ ∧ partB p = numB p.f1) ∨ (p = ⟨2, 0, p.f2⟩ ∧ partB p = txtB p.f2 ∧ p.f2.size ≤ 256) := by
  unfold errP at h
  by_cases h1 : p.f0 = 1 ∧ p.f2 = emp
  · left
    cases p
    obtain ⟨rfl, rfl⟩ := h1
    exact ⟨rfl, rfl⟩
  · rw [if_neg h1] at h
    by_cases h2 : p.f0 = 2 ∧ p.f1 = 0
    · right
      rw [if_pos h2] at h
      by_cases h3 : p.f2.size > 256
      · rw [if_pos h3] at h; omega
      · cases p
        obtain ⟨rfl, rfl⟩ := h2
        exact ⟨rfl, rfl, by simpa using h3⟩
    · rw [if_neg h2] at h; omega
theorem scan_cons {p : S34} {l : List S34} (h : scan (p :: l) = 0) : errP p = 0 ∧ scan l = 0 := by
  rw [scan] at h
  by_cases h1 : errP p = 0
  · rw [if_pos h1] at h; exact ⟨h1, h⟩
  · rw [if_neg h1] at h; exact absurd h h1
theorem takeP_part {p : S34} (h : errP p = 0) (hw : I64 p.f1) (x : List Int) (s : ByteArray) (hs : bytesOf s = partB p ++ x) : takeP s = (p.f0, p.f1, p.f2, strOfNums x, true) := by
  unfold takeP
  rcases part_cases h with ⟨h1, h2⟩ | ⟨h1, h2, _⟩
  · rw [h2] at hs
    obtain ⟨h3, h4⟩ := takeN_num p.f1 hw x s hs
    rw [if_neg h4, h3]
    rw [h1]
  · rw [h2] at hs
    obtain ⟨h3, h4⟩ := takeT_txt p.f2 x s hs
    rw [if_pos h4, h3]
    rw [h1]
theorem partB_bytes {p : S34} (hw : I64 p.f1) : Bytes (partB p) := by
  unfold partB
  split
  · exact numB_bytes hw
  · exact txtB_bytes _
theorem partB_long (p : S34) : 0 < (partB p).length := by
  unfold partB
  split
  · unfold numB; split <;> simp
  · unfold txtB; simp
theorem encL_bytes : ∀ {l : List S34}, Wf l → Bytes (encL l)
  | [], _ => Bytes.nil
  | p :: l, h => Bytes.append (partB_bytes (h p List.mem_cons_self)) (encL_bytes (fun q hq => h q (List.mem_cons_of_mem _ hq)))
theorem getL_enc : ∀ (l : List S34) (n : Nat) (acc : List S34) (s : ByteArray), Wf l → scan l = 0 → bytesOf s = encL l → s.size < n → getL n acc s = (acc ++ l, true)
  | [], n, acc, s, _, _, hs, hn => by
    obtain ⟨m, rfl⟩ : ∃ m, n = m + 1 := ⟨n - 1, by omega⟩
    have : s.size = 0 := by rw [size_bytes, hs]; rfl
    rw [getL, if_pos this, List.append_nil]
  | p :: l, n, acc, s, hw, he, hs, hn => by
    obtain ⟨m, rfl⟩ : ∃ m, n = m + 1 := ⟨n - 1, by omega⟩
    obtain ⟨h1, h2⟩ := scan_cons he
    have hwl : Wf l := fun q hq => hw q (List.mem_cons_of_mem _ hq)
    have ht := takeP_part h1 (hw p List.mem_cons_self) (encL l) s hs
    have hz : s.size = (partB p).length + (encL l).length := by rw [size_bytes, hs, encL, List.length_append]
    have hp := partB_long p
    rw [getL, if_neg (by omega), ht, if_pos rfl]
    have ih := getL_enc l m (acc ++ [p]) (strOfNums (encL l)) hwl h2 (bytesOf_nums (encL_bytes hwl)) (by rw [nums_size]; omega)
    rw [List.append_assoc] at ih
    exact ih
theorem getS_put {l : List S34} (hw : Wf l) (he : putE l = 0) : getS (putS l) = (l, 0) := by
  have hs : putS l = strOfNums (encL l) := by unfold putS; rw [if_pos he]
  have hsc : scan l = 0 := by
    unfold putE at he
    split at he
    · omega
    · exact he
  have hb : bytesOf (putS l) = encL l := by rw [hs, bytesOf_nums (encL_bytes hw)]
  have h := getL_enc l ((putS l).size + 1) [] (putS l) hw hsc hb (by omega)
  rw [List.nil_append] at h
  unfold getS
  rw [h, if_pos ⟨rfl, he, rfl⟩]
/-- What Get tells is a list whose key it is; or there is none. -/
theorem getS_cases (s : ByteArray) : (∃ l, getS s = (l, 0) ∧ Wf l ∧ putE l = 0 ∧ putS l = s) ∨ (getS s = ([], 70) ∧ ∀ l, Wf l → putE l = 0 → putS l ≠ s) := by
  by_cases h : (getL (s.size + 1) [] s).2 = true ∧ putE (getL (s.size + 1) [] s).1 = 0 ∧ putS (getL (s.size + 1) [] s).1 = s
  · left
    refine ⟨(getL (s.size + 1) [] s).1, ?_, getL_wf _ _ _ (fun p h => by simp at h), h.2.1, h.2.2⟩
    unfold getS
    rw [if_pos h]
  · right
    have e : getS s = ([], 70) := by unfold getS; rw [if_neg h]
    refine ⟨e, ?_⟩
    rintro l hw he rfl
    rw [getS_put hw he] at e
    simp at e
end Go.Proofs.Ytephhhflifjcmaa.M
