/- Plain law: what the key of a list of parts is; the program's number, text and Put come to it. -/
import Derived.Test.YtephhhflifjcmaaNBytes
import Derived.Test.YtephhhflifjcmaaKx3
import Derived.Test.YtephhhflifjcmaaKx4
set_option linter.unusedVariables false
set_option linter.unusedSimpArgs false
namespace Go.Proofs.Ytephhhflifjcmaa.M
open Go.RowKit Go.Proofs.Ytephhhflifjcmaa.K Go.Proofs.YtephhhflifjcmaaW.PrintWords Go.Proofs.YtephhhflifjcmaaW.PrintLast

/-- A number's size: of what is below 0, how far it is from -1. -/
def mag (n : Int) : Nat := if n < 0 then (-1 - n).toNat else n.toNat
def I64 (n : Int) : Prop := -9223372036854775808 ≤ n ∧ n ≤ 9223372036854775807
theorem mag_lt {n : Int} (h : I64 n) : mag n < 9223372036854775808 := by unfold mag; obtain ⟨h1, h2⟩ := h; split <;> omega
/-- A number's bytes. -/
def numB (n : Int) : List Int :=
  if n < 0 then (127 - (nb (mag n) : Int)) :: (be (nb (mag n)) (mag n)).map (255 - ·) else (128 + (nb (mag n) : Int)) :: be (nb (mag n)) (mag n)
theorem map_bytes {l : List Int} (h : Bytes l) : Bytes (l.map (255 - ·)) := fun x hx => by
  obtain ⟨y, hy, rfl⟩ := List.mem_map.1 hx
  have := h y hy
  omega
theorem numB_bytes {n : Int} (h : I64 n) : Bytes (numB n) := by
  have hb := nb_le8 (show mag n < 18446744073709551616 by have := mag_lt h; omega)
  unfold numB
  split
  · exact Bytes.cons (by omega) (by omega) (map_bytes (be_bytes _ _))
  · exact Bytes.cons (by omega) (by omega) (be_bytes _ _)
theorem numB_length {n : Int} (h : I64 n) : (numB n).length ≤ 9 := by
  have hb := nb_le8 (show mag n < 18446744073709551616 by have := mag_lt h; omega)
  unfold numB
  split
  · rw [List.length_cons, List.length_map, be_length]; omega
  · rw [List.length_cons, be_length]; omega
/-- A text's bytes. -/
def txtB (s : ByteArray) : List Int := 160 :: grp 0 (bytesOf s)
theorem txtB_bytes (s : ByteArray) : Bytes (txtB s) := Bytes.cons (by omega) (by omega) (grp_bytes _ 0 (by omega) (bytesOf_bytes s))

/-! ### The program's number -/
theorem xor_full {a : Int} (h0 : 0 ≤ a) (h1 : a < 256) : Go.bits .xor .u8 a 255 = 255 - a := by
  have : ∀ n : Fin 256, Go.bits .xor .u8 (n.val : Int) 255 = 255 - (n.val : Int) := by decide +kernel
  have h := this ⟨a.toNat, by omega⟩
  simp only [Int.toNat_of_nonneg h0] at h
  exact h
theorem xor_none {a : Int} (h0 : 0 ≤ a) (h1 : a < 256) : Go.bits .xor .u8 a 0 = a := by
  have : ∀ n : Fin 256, Go.bits .xor .u8 (n.val : Int) 0 = (n.val : Int) := by decide +kernel
  have h := this ⟨a.toNat, by omega⟩
  simp only [Int.toNat_of_nonneg h0] at h
  exact h
theorem xor_all_nat (m : Nat) (h : m < 18446744073709551616) : 18446744073709551615 ^^^ m = 18446744073709551615 - m := by
  have h2 : (BitVec.allOnes 64 ^^^ BitVec.ofNat 64 m) = ~~~ (BitVec.ofNat 64 m) := BitVec.allOnes_xor
  have h3 := congrArg BitVec.toNat h2
  rw [BitVec.toNat_xor, BitVec.toNat_not, BitVec.toNat_allOnes, BitVec.toNat_ofNat, Nat.mod_eq_of_lt h] at h3
  simpa using h3
theorem xor_all {a : Int} (h0 : 0 ≤ a) (h1 : a < 18446744073709551616) : Go.bits .xor .u64 18446744073709551615 a = 18446744073709551615 - a := by
  obtain ⟨m, rfl⟩ := Int.eq_ofNat_of_zero_le h0
  have h2 := u64_xor_nat 18446744073709551615 m (by omega) (by omega)
  rw [xor_all_nat m (by omega)] at h2
  have h3 : ((18446744073709551615 : Nat) : Int) = 18446744073709551615 := rfl
  rw [h3] at h2
  rw [h2]
  omega
theorem wrap_u64 (n : Int) : IntKind.u64.wrap n = n % 18446744073709551616 := IntKind.wrap_u64 n
theorem w64 {n : Int} (h : I64 n) : wrap64 n = n := by unfold wrap64; obtain ⟨h1, h2⟩ := h; omega
theorem shr_be (m d : Nat) (hd : d < 8) : (shr .u64 (m : Int) ((8 * d : Nat) : Int)) % 256 = ((m / 256 ^ d % 256 : Nat) : Int) := by
  have e : shr .u64 (m : Int) ((8 * d : Nat) : Int) = (m : Int) / 2 ^ (8 * d) := by
    unfold shr
    rw [Int.toNat_natCast, Nat.min_eq_left (show 8 * d ≤ IntKind.bits .u64 by show 8 * d ≤ 64; omega)]
  rw [e]
  have h2 : (2 : Int) ^ (8 * d) = ((256 ^ d : Nat) : Int) := by
    rw [Nat.pow_mul' 2 8 d |> fun h => (show (256 ^ d : Nat) = 2 ^ (8 * d) by rw [Nat.pow_mul])]
    simp
  rw [h2]
  omega
theorem number_loop (x5 : Int) (m K : Nat) (hK : K ≤ 8) : ∀ (d i : Nat) (x0 : List Int), i + d = K → x0.length + d < 140737488355328 →
    Ev (fun k => keys_number.l0 k x0 x5 (m : Int) (K : Int) (K : Int) (i : Int)) (x0 ++ (be d m).map fun b => Go.bits .xor .u8 b x5)
  | 0, i, x0, h, hl => by
    refine ⟨1, fun k hk => ?_⟩
    obtain ⟨k, rfl⟩ : ∃ n, k = n + 1 := ⟨k - 1, by omega⟩
    simp only [keys_number.l0]
    rw [if_neg (by omega)]
    simp [be]
  | d + 1, i, x0, h, hl => by
    have ih := number_loop x5 m K hK d (i + 1) (x0 ++ [Go.bits .xor .u8 ((m / 256 ^ d % 256 : Nat) : Int) x5]) (by omega) (by rw [List.length_append, List.length_singleton]; omega)
    have e1 : wrap64 ((K : Int) - 1) = (K : Int) - 1 := w64 ⟨by omega, by omega⟩
    have e2 : wrap64 ((K : Int) - 1 - i) = (d : Int) := by rw [w64 ⟨by omega, by omega⟩]; omega
    have e3 : wrap64 (8 * (d : Int)) = ((8 * d : Nat) : Int) := by rw [w64 ⟨by omega, by omega⟩]; omega
    have e4 : wrap64 ((i : Int) + 1) = ((i + 1 : Nat) : Int) := by rw [w64 ⟨by omega, by omega⟩]; omega
    refine Ev.step (f := fun k => keys_number.l0 k (x0 ++ [Go.bits .xor .u8 ((m / 256 ^ d % 256 : Nat) : Int) x5]) x5 (m : Int) (K : Int) (K : Int) ((i + 1 : Nat) : Int)) (fun k => ?_) (by rw [be, List.map_cons, ← List.singleton_append (l := List.map _ _), ← List.append_assoc]; exact ih)
    simp only [keys_number.l0]
    rw [if_pos (by omega), e1, e2, e3, if_pos (by omega), if_pos (by omega), shr_be m d (by omega), e4]
theorem map_xor_none (k m : Nat) : (be k m).map (fun b => Go.bits .xor .u8 b 0) = be k m := by
  conv => rhs; rw [← List.map_id (be k m)]
  apply List.map_congr_left
  intro x hx
  have := be_bytes k m x hx
  exact xor_none this.1 this.2
theorem map_xor_full (k m : Nat) : (be k m).map (fun b => Go.bits .xor .u8 b 255) = (be k m).map (255 - ·) := by
  apply List.map_congr_left
  intro x hx
  have := be_bytes k m x hx
  exact xor_full this.1 this.2
theorem number_tells (l : List Int) (n : Int) (hn : I64 n) (hl : l.length + 20 < 140737488355328) : Ev (fun k => keys_number.f k l n) (l ++ numB n) := by
  have hm := mag_lt hn
  have hm2 : mag n < 18446744073709551616 := by omega
  have hb := nb_le8 hm2
  have hlen := nb_len hm2
  have hbit : Lib.bitLen (mag n) ≤ 64 := by omega
  have e7 : wrap64 (((Lib.bitLen (mag n) : Nat) : Int) + 7) = ((Lib.bitLen (mag n) + 7 : Nat) : Int) := by rw [w64 ⟨by omega, by omega⟩]; omega
  have e8 : wrap64 (Int.tdiv ((Lib.bitLen (mag n) + 7 : Nat) : Int) 8) = (nb (mag n) : Int) := by
    rw [Int.tdiv_eq_ediv_of_nonneg (by omega), w64 ⟨by omega, by omega⟩]
    omega
  by_cases h0 : n < 0
  · have em : Go.bits .xor .u64 18446744073709551615 (IntKind.u64.wrap n) = ((mag n : Nat) : Int) := by
      obtain ⟨h1, h2⟩ := hn
      rw [wrap_u64, xor_all (by omega) (by omega)]
      unfold mag
      rw [if_pos h0]
      omega
    have eh : wrap64 (127 - (nb (mag n) : Int)) % 256 = 127 - (nb (mag n) : Int) := by rw [w64 ⟨by omega, by omega⟩]; omega
    have ih := number_loop 255 (mag n) (nb (mag n)) hb (nb (mag n)) 0 (l ++ [127 - (nb (mag n) : Int)]) (by omega) (by rw [List.length_append, List.length_singleton]; omega)
    rw [map_xor_full] at ih
    refine Ev.congr (f := fun k => keys_number.j0 k l n 255 ((mag n : Nat) : Int)) (fun k => by simp only [keys_number.f]; rw [if_pos h0, em]) ?_
    refine Ev.step (f := fun k => keys_number.j1 k (l ++ [127 - (nb (mag n) : Int)]) 255 ((mag n : Nat) : Int) (nb (mag n) : Int)) (fun k => ?_) ?_
    · simp only [keys_number.j0, bits_Len64.f]
      rw [if_pos (by omega), if_pos (by omega)]
      simp only [Option.bind_some, Int.toNat_natCast]
      rw [if_pos h0, e7, e8, eh, if_pos (by omega)]
    · refine Ev.step (f := fun k => keys_number.l0 k (l ++ [127 - (nb (mag n) : Int)]) 255 ((mag n : Nat) : Int) (nb (mag n) : Int) (nb (mag n) : Int) ((0 : Nat) : Int)) (fun k => by simp only [keys_number.j1]; rfl) ?_
      unfold numB
      rw [if_pos h0]
      rw [List.append_assoc] at ih
      exact ih
  · have eh : wrap64 (128 + (nb (mag n) : Int)) % 256 = 128 + (nb (mag n) : Int) := by rw [w64 ⟨by omega, by omega⟩]; omega
    have ih := number_loop 0 (mag n) (nb (mag n)) hb (nb (mag n)) 0 (l ++ [128 + (nb (mag n) : Int)]) (by omega) (by rw [List.length_append, List.length_singleton]; omega)
    rw [map_xor_none] at ih
    have em : IntKind.u64.wrap n = ((mag n : Nat) : Int) := by
      obtain ⟨h1, h2⟩ := hn
      rw [wrap_u64]
      unfold mag
      rw [if_neg h0]
      omega
    refine Ev.congr (f := fun k => keys_number.j0 k l n 0 ((mag n : Nat) : Int)) (fun k => by simp only [keys_number.f]; rw [if_neg h0, em]) ?_
    refine Ev.step (f := fun k => keys_number.j1 k (l ++ [128 + (nb (mag n) : Int)]) 0 ((mag n : Nat) : Int) (nb (mag n) : Int)) (fun k => ?_) ?_
    · simp only [keys_number.j0, bits_Len64.f]
      rw [if_pos (by omega), if_pos (by omega)]
      simp only [Option.bind_some, Int.toNat_natCast]
      rw [if_neg h0, e7, e8, eh, if_pos (by omega)]
    · refine Ev.step (f := fun k => keys_number.l0 k (l ++ [128 + (nb (mag n) : Int)]) 0 ((mag n : Nat) : Int) (nb (mag n) : Int) (nb (mag n) : Int) ((0 : Nat) : Int)) (fun k => by simp only [keys_number.j1]; rfl) ?_
      unfold numB
      rw [if_neg h0]
      rw [List.append_assoc] at ih
      exact ih
/-! ### The program's text -/
theorem text_tells (l : List Int) (s : ByteArray) (hl : l.length + 9 * s.size + 100 < 140737488355328) : keys_text.f l s = some (l ++ txtB s) := by
  have h := textK_grp s.size (bytesOf s) (by rw [bytesOf_length]; omega)
  unfold keys_text.f txtB
  rw [if_pos hl, h]

/-! ### Parts, and the key of a list of them -/
def emp : ByteArray := ⟨#[]⟩
theorem emp_iff (s : ByteArray) : s.toList = ([] : List UInt8) ↔ s = emp := by
  rw [toList_nil]
  constructor
  · intro h; exact text_ext h
  · rintro rfl; rfl
/-- What is wrong with a part: 0: nothing. -/
def errP (p : S34) : Int := if p.f0 = 1 ∧ p.f2 = emp then 0 else if p.f0 = 2 ∧ p.f1 = 0 then (if p.f2.size > 256 then 1 else 0) else 2
def partB (p : S34) : List Int := if p.f0 = 1 then numB p.f1 else txtB p.f2
def scan : List S34 → Int
  | [] => 0
  | p :: l => if errP p = 0 then scan l else errP p
def putE (l : List S34) : Int := if l.length > 8 then 6 else scan l
def encL : List S34 → List Int
  | [] => []
  | p :: l => partB p ++ encL l
/-- Whole numbers that are numbers of the kind int64. -/
def Wf (l : List S34) : Prop := ∀ p ∈ l, I64 p.f1
def putS (l : List S34) : ByteArray := if putE l = 0 then strOfNums (encL l) else emp
theorem rd_at {l : List S34} {i : Nat} (h : i < l.length) : rd_T34 l (i : Int) = l[i] := by simp [rd_T34, List.getD_eq_getElem?_getD, List.getElem?_eq_getElem h]
theorem int_part (p : S34) : ((p.f0 == 1 && (p.f1 == p.f1 && (p.f2.toList == (⟨#[]⟩ : ByteArray).toList))) = true) ↔ (p.f0 = 1 ∧ p.f2 = emp) := by
  have e : (⟨#[]⟩ : ByteArray).toList = ([] : List UInt8) := (emp_iff _).2 rfl
  rw [← emp_iff, e]
  simp
theorem txt_part (p : S34) : ((!(p.f0 == 2) || (!(p.f1 == 0) || (!(p.f2.toList == p.f2.toList)))) = true) ↔ ¬ (p.f0 = 2 ∧ p.f1 = 0) := by
  simp
  omega
theorem put_loop (l : List S34) (hw : Wf l) (hl8 : l.length ≤ 8) : ∀ (d i : Nat) (acc : List Int), i + d = l.length → acc.length ≤ 4000 * i →
    Ev (fun k => keys_Put.l0 k acc l (l.length : Int) (i : Int)) (if scan (l.drop i) = 0 then (strOfNums (acc ++ encL (l.drop i)), 0) else (emp, scan (l.drop i)))
  | 0, i, acc, h, hb => by
    refine ⟨1, fun k hk => ?_⟩
    obtain ⟨k, rfl⟩ : ∃ n, k = n + 1 := ⟨k - 1, by omega⟩
    simp only [keys_Put.l0]
    rw [if_neg (by omega), List.drop_of_length_le (by omega)]
    simp [scan, encL]
  | d + 1, i, acc, h, hb => by
    have hi : i < l.length := by omega
    have hd : l.drop i = l[i] :: l.drop (i + 1) := List.drop_eq_getElem_cons hi
    have hp : I64 l[i].f1 := hw _ (List.getElem_mem hi)
    have e4 : wrap64 ((i : Int) + 1) = ((i + 1 : Nat) : Int) := by rw [w64 ⟨by omega, by omega⟩]; omega
    have hr := rd_at hi
    rw [hd]
    generalize l[i] = p at hd hp hr
    by_cases h1 : p.f0 = 1 ∧ p.f2 = emp
    · have hn := number_tells acc p.f1 hp (by omega)
      have hbn := numB_length hp
      have ih := put_loop l hw hl8 d (i + 1) (acc ++ numB p.f1) (by omega) (by rw [List.length_append]; omega)
      have he : errP p = 0 := by unfold errP; rw [if_pos h1]
      have hs : scan (p :: l.drop (i + 1)) = scan (l.drop (i + 1)) := by rw [scan, if_pos he]
      have hc : encL (p :: l.drop (i + 1)) = numB p.f1 ++ encL (l.drop (i + 1)) := by rw [encL, partB, if_pos h1.1]
      rw [hs, hc, ← List.append_assoc]
      refine Ev.step (f := fun k => (keys_number.f k acc p.f1).bind fun t => keys_Put.l0 k t l (l.length : Int) ((i + 1 : Nat) : Int)) (fun k => ?_) (Ev.bind hn ih)
      simp only [keys_Put.l0]
      rw [if_pos (by omega), if_pos (by omega), if_pos (by omega), hr]
      simp only [keys_Int.f, Option.bind_some]
      rw [if_pos ((int_part p).2 h1), e4]
    · by_cases h2 : p.f0 = 2 ∧ p.f1 = 0
      · by_cases h3 : p.f2.size > 256
        · have he : errP p = 1 := by unfold errP; rw [if_neg h1, if_pos h2, if_pos h3]
          have hs : scan (p :: l.drop (i + 1)) = 1 := by rw [scan, he, if_neg (by omega)]
          rw [hs, if_neg (by omega)]
          refine ⟨1, fun k hk => ?_⟩
          obtain ⟨k, rfl⟩ : ∃ n, k = n + 1 := ⟨k - 1, by omega⟩
          simp only [keys_Put.l0]
          rw [if_pos (by omega), if_pos (by omega), if_pos (by omega), hr]
          simp only [keys_Int.f, keys_Text.f, Option.bind_some]
          rw [if_neg (fun h => h1 ((int_part p).1 h)), if_neg (fun h => (txt_part p).1 h h2), if_pos (by omega)]
          rfl
        · have hn := text_tells acc p.f2 (by omega)
          have hbn : (txtB p.f2).length ≤ 600 := by
            unfold txtB
            have := grp_length (bytesOf p.f2) 0
            rw [bytesOf_length] at this
            rw [List.length_cons]
            omega
          have ih := put_loop l hw hl8 d (i + 1) (acc ++ txtB p.f2) (by omega) (by rw [List.length_append]; omega)
          have he : errP p = 0 := by unfold errP; rw [if_neg h1, if_pos h2, if_neg h3]
          have hs : scan (p :: l.drop (i + 1)) = scan (l.drop (i + 1)) := by rw [scan, if_pos he]
          have hc : encL (p :: l.drop (i + 1)) = txtB p.f2 ++ encL (l.drop (i + 1)) := by rw [encL, partB, if_neg (by omega)]
          rw [hs, hc, ← List.append_assoc]
          refine Ev.step (f := fun k => keys_Put.l0 k (acc ++ txtB p.f2) l (l.length : Int) ((i + 1 : Nat) : Int)) (fun k => ?_) ih
          simp only [keys_Put.l0]
          rw [if_pos (by omega), if_pos (by omega), if_pos (by omega), hr]
          simp only [keys_Int.f, keys_Text.f, Option.bind_some]
          rw [if_neg (fun h => h1 ((int_part p).1 h)), if_neg (fun h => (txt_part p).1 h h2), if_neg (by omega), hn, e4]
          rfl
      · have he : errP p = 2 := by unfold errP; rw [if_neg h1, if_neg h2]
        have hs : scan (p :: l.drop (i + 1)) = 2 := by rw [scan, he, if_neg (by omega)]
        rw [hs, if_neg (by omega)]
        refine ⟨1, fun k hk => ?_⟩
        obtain ⟨k, rfl⟩ : ∃ n, k = n + 1 := ⟨k - 1, by omega⟩
        simp only [keys_Put.l0]
        rw [if_pos (by omega), if_pos (by omega), if_pos (by omega), hr]
        simp only [keys_Int.f, keys_Text.f, Option.bind_some]
        rw [if_neg (fun h => h1 ((int_part p).1 h)), if_pos ((txt_part p).2 h2)]
        rfl
theorem put_tells (l : List S34) (hw : Wf l) : Ev (fun k => keys_Put.f k l) (putS l, putE l) := by
  by_cases h8 : l.length > 8
  · have e : putE l = 6 := by unfold putE; rw [if_pos h8]
    unfold putS
    rw [e, if_neg (by omega)]
    refine ⟨0, fun k _ => ?_⟩
    simp only [keys_Put.f]
    rw [if_pos (by omega)]
    rfl
  · have e : putE l = scan l := by unfold putE; rw [if_neg h8]
    have h := put_loop l hw (by omega) l.length 0 [] (by omega) (by simp)
    rw [List.drop_zero, List.nil_append] at h
    have e2 : (putS l, putE l) = if scan l = 0 then (strOfNums (encL l), 0) else (emp, scan l) := by
      unfold putS
      rw [e]
      split
      · next h0 => rw [h0]
      · rfl
    rw [e2]
    refine Ev.congr (fun k => ?_) h
    simp only [keys_Put.f]
    rw [if_neg (by omega)]
    rfl
end Go.Proofs.Ytephhhflifjcmaa.M
