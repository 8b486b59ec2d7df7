/- Plain facts on bytes: texts as lists of numbers, their order, the digits of a number to the base 256, and a text's groups. -/
import Derived.Test.YtephhhflifjcmaaGTake
import Derived.Test.YtephhhflifjcmaaGText
import Derived.Laws.BitsAllLaws
import Derived.Lib.Bytealg
set_option linter.unusedVariables false
set_option linter.unusedSimpArgs false
namespace Go.Proofs.Ytephhhflifjcmaa.M
open Go.RowKit Go.Proofs.Ytephhhflifjcmaa.K Go.Proofs.YtephhhflifjcmaaW.PrintWords

/-! ### Texts and lists of bytes -/
def Bytes (l : List Int) : Prop := ∀ x ∈ l, 0 ≤ x ∧ x < 256
theorem Bytes.nil : Bytes [] := fun _ h => by cases h
theorem Bytes.cons {a : Int} {l : List Int} (h0 : 0 ≤ a) (h1 : a < 256) (h : Bytes l) : Bytes (a :: l) := fun x hx => by
  rcases List.mem_cons.1 hx with rfl | hx
  · exact ⟨h0, h1⟩
  · exact h x hx
theorem Bytes.tail {a : Int} {l : List Int} (h : Bytes (a :: l)) : Bytes l := fun x hx => h x (List.mem_cons_of_mem _ hx)
theorem Bytes.head {a : Int} {l : List Int} (h : Bytes (a :: l)) : 0 ≤ a ∧ a < 256 := h a List.mem_cons_self
theorem Bytes.append {a b : List Int} (h : Bytes a) (k : Bytes b) : Bytes (a ++ b) := fun x hx => by
  rcases List.mem_append.1 hx with hx | hx
  · exact h x hx
  · exact k x hx
theorem bytesOf_bytes (s : ByteArray) : Bytes (bytesOf s) := fun x hx => by
  unfold bytesOf at hx
  obtain ⟨b, _, rfl⟩ := List.mem_map.1 hx
  have := b.toNat_lt
  omega
theorem nums_data (l : List Int) : (strOfNums l).data.toList = l.map fun n => UInt8.ofNat n.toNat := by simp [strOfNums]
theorem bytesOf_nums {l : List Int} (h : Bytes l) : bytesOf (strOfNums l) = l := by
  unfold bytesOf
  rw [nums_data, List.map_map]
  conv => rhs; rw [← List.map_id l]
  apply List.map_congr_left
  intro x hx
  have := h x hx
  simp only [Function.comp, id]
  rw [UInt8.toNat_ofNat_of_lt' (by show x.toNat < 2 ^ 8; omega)]
  omega
theorem text_ext {a b : ByteArray} (h : bytesOf a = bytesOf b) : a = b := by
  unfold bytesOf at h
  have h2 : a.data.toList = b.data.toList := by
    apply List.map_inj_right (f := fun b : UInt8 => (b.toNat : Int)) ?_ |>.1 h
    intro x y hxy
    exact UInt8.toNat_inj.1 (by have : (x.toNat : Int) = y.toNat := hxy; omega)
  cases a; cases b
  simp at h2 ⊢
  exact h2
theorem nums_bytesOf (s : ByteArray) : strOfNums (bytesOf s) = s := text_ext (bytesOf_nums (bytesOf_bytes s))
theorem bytesOf_append (a b : ByteArray) : bytesOf (a ++ b) = bytesOf a ++ bytesOf b := by
  unfold bytesOf
  rw [← List.map_append, ByteArray.data_append, Array.toList_append]
theorem nums_append {a b : List Int} : strOfNums (a ++ b) = strOfNums a ++ strOfNums b := by
  have : (strOfNums (a ++ b)).data = (strOfNums a ++ strOfNums b).data := by
    apply Array.ext'
    rw [nums_data, ByteArray.data_append, Array.toList_append, nums_data, nums_data, List.map_append]
  cases h1 : strOfNums (a ++ b); cases h2 : strOfNums a ++ strOfNums b
  rw [h1, h2] at this
  simpa using this
theorem toList_eq (a b : ByteArray) : a.toList = b.toList ↔ a = b := by
  rw [Lib.toList_data, Lib.toList_data]
  constructor
  · intro h
    cases a; cases b
    simp at h ⊢
    exact h
  · rintro rfl; rfl
theorem toList_nil (a : ByteArray) : a.toList = ([] : List UInt8) ↔ bytesOf a = [] := by
  rw [Lib.toList_data]
  unfold bytesOf
  simp
theorem size_bytes (s : ByteArray) : s.size = (bytesOf s).length := (bytesOf_length s).symm

/-! ### Order: what decides, if anything does -/
/-- The first place at which both have a byte and differ; 0: there is none. -/
def dcmp : List Int → List Int → Int
  | [], _ => 0
  | _ :: _, [] => 0
  | a :: u, b :: v => if a < b then -1 else if b < a then 1 else dcmp u v
/-- The whole order. -/
def lcmp : List Int → List Int → Int
  | [], [] => 0
  | [], _ :: _ => -1
  | _ :: _, [] => 1
  | a :: u, b :: v => if a < b then -1 else if b < a then 1 else lcmp u v
theorem dcmp_nil (u : List Int) : dcmp u [] = 0 := by cases u <;> rfl
theorem lcmp_self : ∀ u : List Int, lcmp u u = 0
  | [] => rfl
  | a :: u => by rw [lcmp, if_neg (by omega), if_neg (by omega), lcmp_self u]
theorem lcmp_zero : ∀ u v : List Int, lcmp u v = 0 → u = v
  | [], [], _ => rfl
  | [], _ :: _, h => by simp [lcmp] at h
  | _ :: _, [], h => by simp [lcmp] at h
  | a :: u, b :: v, h => by
    rw [lcmp] at h
    by_cases h1 : a < b
    · rw [if_pos h1] at h; omega
    · by_cases h2 : b < a
      · rw [if_neg h1, if_pos h2] at h; omega
      · rw [if_neg h1, if_neg h2] at h
        rw [lcmp_zero u v h, show a = b by omega]
theorem lcmp_of_dcmp : ∀ (u v x y : List Int), dcmp u v ≠ 0 → lcmp (u ++ x) (v ++ y) = dcmp u v
  | [], v, x, y, h => absurd rfl h
  | a :: u, [], x, y, h => absurd rfl h
  | a :: u, b :: v, x, y, h => by
    rw [dcmp] at h ⊢
    rw [List.cons_append, List.cons_append, lcmp]
    by_cases h1 : a < b
    · rw [if_pos h1, if_pos h1]
    · by_cases h2 : b < a
      · rw [if_neg h1, if_pos h2, if_neg h1, if_pos h2]
      · rw [if_neg h1, if_neg h2] at h ⊢
        rw [if_neg h1, if_neg h2]
        exact lcmp_of_dcmp u v x y h
theorem lcmp_same : ∀ (u x y : List Int), lcmp (u ++ x) (u ++ y) = lcmp x y
  | [], x, y => rfl
  | a :: u, x, y => by rw [List.cons_append, List.cons_append, lcmp, if_neg (by omega), if_neg (by omega), lcmp_same u x y]
theorem lcmp_flip : ∀ u v : List Int, lcmp v u = - lcmp u v
  | [], [] => rfl
  | [], _ :: _ => rfl
  | _ :: _, [] => rfl
  | a :: u, b :: v => by
    rw [lcmp, lcmp]
    by_cases h1 : a < b
    · have h2 : ¬ b < a := by omega
      simp [h1, h2]
    · by_cases h2 : b < a
      · simp [h1, h2]
      · simp [h1, h2, lcmp_flip u v]
theorem lcmp_range : ∀ u v : List Int, lcmp u v = -1 ∨ lcmp u v = 0 ∨ lcmp u v = 1
  | [], [] => .inr (.inl rfl)
  | [], _ :: _ => .inl rfl
  | _ :: _, [] => .inr (.inr rfl)
  | a :: u, b :: v => by
    rw [lcmp]
    split
    · exact .inl rfl
    · split
      · exact .inr (.inr rfl)
      · exact lcmp_range u v
/-- Two texts by their bytes. -/
theorem bytesLess_bytes (a b : ByteArray) : Op.bytesLess a.toList b.toList = decide (lcmp (bytesOf a) (bytesOf b) = -1) := by
  rw [Lib.toList_data, Lib.toList_data]
  unfold bytesOf
  generalize a.data.toList = x
  generalize b.data.toList = y
  induction x generalizing y with
  | nil => cases y <;> rfl
  | cons c x ih =>
    cases y with
    | nil => rfl
    | cons d y =>
      simp only [Op.bytesLess, List.map_cons, lcmp]
      have hcd : c < d ↔ (c.toNat : Int) < d.toNat := by rw [UInt8.lt_iff_toNat_lt]; omega
      have hdc : c = d ↔ (c.toNat : Int) = d.toNat := by rw [← UInt8.toNat_inj]; omega
      by_cases h1 : c < d
      · rw [if_pos (hcd.1 h1)]
        simp [h1]
      · by_cases h2 : c = d
        · subst h2
          rw [if_neg (by omega), if_neg (by omega), ← ih]
          simp [h1]
        · have : ¬ ((c.toNat : Int) < d.toNat) := fun h => h1 (hcd.2 h)
          have h3 : ¬ ((c.toNat : Int) = d.toNat) := fun h => h2 (hdc.2 h)
          rw [if_neg this, if_pos (by omega)]
          simp [h1, h2]
theorem compareBytes_bytes (a b : ByteArray) : Lib.compareBytes a.data.toList b.data.toList = lcmp (bytesOf a) (bytesOf b) := by
  unfold bytesOf
  generalize a.data.toList = x
  generalize b.data.toList = y
  induction x generalizing y with
  | nil => cases y <;> rfl
  | cons c x ih =>
    cases y with
    | nil => rfl
    | cons d y =>
      simp only [Lib.compareBytes, List.map_cons, lcmp, ih]
      have hcd : c < d ↔ (c.toNat : Int) < d.toNat := by rw [UInt8.lt_iff_toNat_lt]; omega
      have hdc : d < c ↔ (d.toNat : Int) < c.toNat := by rw [UInt8.lt_iff_toNat_lt]; omega
      by_cases h1 : c < d
      · rw [if_pos (hcd.1 h1)]
        simp [h1]
      · by_cases h2 : d < c
        · rw [if_neg (fun h => h1 (hcd.2 h)), if_pos (hdc.1 h2)]
          simp [h1, h2]
        · rw [if_neg (fun h => h1 (hcd.2 h)), if_neg (fun h => h2 (hdc.2 h))]
          simp [h1, h2]

/-! ### A number to the base 256 -/
/-- How many digits: none of 0. -/
def nbF : Nat → Nat → Nat
  | 0, _ => 0
  | f + 1, m => if m = 0 then 0 else 1 + nbF f (m / 256)
def nb (m : Nat) : Nat := nbF 9 m
/-- The last k digits, the greatest ahead. -/
def be : Nat → Nat → List Int
  | 0, _ => []
  | k + 1, m => ((m / 256 ^ k % 256 : Nat) : Int) :: be k m
theorem be_length : ∀ k m, (be k m).length = k
  | 0, _ => rfl
  | k + 1, m => by rw [be, List.length_cons, be_length k m]
theorem be_bytes : ∀ k m, Bytes (be k m)
  | 0, _ => Bytes.nil
  | k + 1, m => Bytes.cons (by omega) (by have := Nat.mod_lt (m / 256 ^ k) (show 0 < 256 by omega); omega) (be_bytes k m)
theorem pow_pos256 (k : Nat) : 0 < 256 ^ k := Nat.pow_pos (by omega)
theorem mod_succ (m k : Nat) : m % 256 ^ (k + 1) = m / 256 ^ k % 256 * 256 ^ k + m % 256 ^ k := by
  rw [Nat.pow_succ, Nat.mod_mul, Nat.mul_comm (256 ^ k), Nat.add_comm]
theorem dcmp_be : ∀ k m m', dcmp (be k m) (be k m') = if m % 256 ^ k < m' % 256 ^ k then -1 else if m' % 256 ^ k < m % 256 ^ k then 1 else 0
  | 0, m, m' => by simp [be, dcmp, Nat.mod_one]
  | k + 1, m, m' => by
    rw [be, be, dcmp, dcmp_be k m m', mod_succ m k, mod_succ m' k]
    have hp := pow_pos256 k
    have r1 := Nat.mod_lt m hp
    have r2 := Nat.mod_lt m' hp
    generalize m / 256 ^ k % 256 = a
    generalize m' / 256 ^ k % 256 = b
    generalize m % 256 ^ k = x at r1 ⊢
    generalize m' % 256 ^ k = y at r2 ⊢
    generalize 256 ^ k = q at hp r1 r2 ⊢
    by_cases h1 : a < b
    · have : a * q + q ≤ b * q := by rw [← Nat.succ_mul]; exact Nat.mul_le_mul_right _ h1
      rw [if_pos (by omega), if_pos (by omega)]
    · by_cases h2 : b < a
      · have : b * q + q ≤ a * q := by rw [← Nat.succ_mul]; exact Nat.mul_le_mul_right _ h2
        rw [if_neg (by omega), if_pos (by omega), if_neg (by omega), if_pos (by omega)]
      · obtain rfl : a = b := by omega
        rw [if_neg (by omega), if_neg (by omega)]
        simp
/-- Read back. -/
def valF : Int → List Int → Int
  | acc, [] => acc
  | acc, b :: r => valF (acc * 256 + b) r
theorem val_be : ∀ (k m : Nat) (acc : Nat), valF (acc : Int) (be k m) = ((acc * 256 ^ k + m % 256 ^ k : Nat) : Int)
  | 0, m, acc => by simp [be, valF, Nat.mod_one]
  | k + 1, m, acc => by
    rw [be, valF, show ((acc : Int) * 256 + ((m / 256 ^ k % 256 : Nat) : Int)) = ((acc * 256 + m / 256 ^ k % 256 : Nat) : Int) by omega, val_be k m, mod_succ m k, Nat.pow_succ, Nat.add_mul]
    congr 1
    rw [Nat.mul_comm (256 ^ k) 256, Nat.mul_assoc]
    omega
theorem nb_spec : ∀ f m, m < 256 ^ f → m < 256 ^ nbF f m ∧ (∀ j, nbF f m = j + 1 → 256 ^ j ≤ m) ∧ nbF f m ≤ f
  | 0, m, h => ⟨by have : m = 0 := by simpa using h
                   simp [nbF, this], by intro j hj; simp [nbF] at hj, Nat.le_refl _⟩
  | f + 1, m, h => by
    rw [nbF]
    by_cases h0 : m = 0
    · rw [if_pos h0]
      exact ⟨by simp [h0], by intro j hj; omega, by omega⟩
    · rw [if_neg h0]
      obtain ⟨h1, h2, h3⟩ := nb_spec f (m / 256) (by rw [Nat.pow_succ] at h; exact Nat.div_lt_of_lt_mul (by rw [Nat.mul_comm]; exact h))
      refine ⟨?_, ?_, by omega⟩
      · rw [Nat.add_comm, Nat.pow_succ]
        have := Nat.lt_of_lt_of_le (Nat.lt_mul_div_succ m (show 0 < 256 by omega)) (Nat.mul_le_mul_left 256 h1)
        rwa [Nat.mul_comm]
      · intro j hj
        obtain rfl : j = nbF f (m / 256) := by omega
        cases hn : nbF f (m / 256) with
        | zero => simp; omega
        | succ i =>
          have := h2 i hn
          rw [Nat.pow_succ]
          have h4 := Nat.mul_le_mul_right 256 this
          exact Nat.le_trans h4 (Nat.div_mul_le_self m 256)
theorem nb_le8 {m : Nat} (h : m < 18446744073709551616) : nb m ≤ 8 := by
  obtain ⟨h1, h2, h3⟩ := nb_spec 9 m (Nat.lt_of_lt_of_le h (by decide))
  unfold nb
  rcases Nat.lt_or_ge 8 (nbF 9 m) with h4 | h4
  · have h5 : nbF 9 m = 8 + 1 := by omega
    have := h2 8 h5
    omega
  · exact h4
theorem nb_lt {m : Nat} (h : m < 18446744073709551616) : m < 256 ^ nb m := (nb_spec 9 m (Nat.lt_of_lt_of_le h (by decide))).1
theorem nb_mono {m m' : Nat} (h : m < m') (h' : m' < 18446744073709551616) : nb m ≤ nb m' := by
  obtain ⟨h1, h2, h3⟩ := nb_spec 9 m (Nat.lt_of_lt_of_le (Nat.lt_trans h h') (by decide))
  have h4 := nb_lt h'
  unfold nb at h4 ⊢
  rcases Nat.lt_or_ge (nbF 9 m') (nbF 9 m) with h5 | h5
  · exfalso
    obtain ⟨i, hi⟩ : ∃ i, nbF 9 m = i + 1 := ⟨nbF 9 m - 1, by omega⟩
    have h6 := h2 i hi
    have h7 : 256 ^ nbF 9 m' ≤ 256 ^ i := Nat.pow_le_pow_right (by omega) (by omega)
    omega
  · exact h5
theorem nb_bits : ∀ f m, m < 256 ^ f → f ≤ 8 → (Lib.bitLen m + 7) / 8 = nbF f m
  | 0, m, h, _ => by
    have : m = 0 := by simpa using h
    subst this
    rfl
  | f + 1, m, h, hf => by
    rw [nbF]
    by_cases h0 : m = 0
    · subst h0; rfl
    · rw [if_neg h0]
      have hm : m / 256 < 256 ^ f := by rw [Nat.pow_succ] at h; exact Nat.div_lt_of_lt_mul (by rw [Nat.mul_comm]; exact h)
      have h8 : 256 ^ (f + 1) ≤ 256 ^ 8 := Nat.pow_le_pow_right (by omega) hf
      have h9 : m < 18446744073709551616 := Nat.lt_of_lt_of_le h (Nat.le_trans h8 (by decide))
      rw [← nb_bits f (m / 256) hm (by omega)]
      rcases Nat.lt_or_ge m 256 with hs | hs
      · have e : m / 256 = 0 := by omega
        rw [e]
        have : ∀ n : Fin 256, n.val ≠ 0 → (Lib.bitLen n.val + 7) / 8 = 1 + (Lib.bitLen 0 + 7) / 8 := by decide +kernel
        exact this ⟨m, hs⟩ h0
      · rw [Lib.bitLen_shift8 m hs h9]
        omega
theorem nb_more : ∀ f m, m < 256 ^ f → nbF (f + 1) m = nbF f m
  | 0, m, h => by
    have : m = 0 := by simpa using h
    subst this
    rfl
  | f + 1, m, h => by
    show (if m = 0 then 0 else 1 + nbF (f + 1) (m / 256)) = (if m = 0 then 0 else 1 + nbF f (m / 256))
    by_cases h0 : m = 0
    · rw [if_pos h0, if_pos h0]
    · rw [if_neg h0, if_neg h0, nb_more f (m / 256) (by rw [Nat.pow_succ] at h; exact Nat.div_lt_of_lt_mul (by rw [Nat.mul_comm]; exact h))]
theorem nb_len {m : Nat} (h : m < 18446744073709551616) : (Lib.bitLen m + 7) / 8 = nb m := by
  have h8 : m < 256 ^ 8 := h
  rw [nb_bits 8 m h8 (Nat.le_refl _), nb, nb_more 8 m h8]

/-! ### A text's groups, byte by byte: j bytes of the group have gone -/
def grp : Nat → List Int → List Int
  | j, [] => List.replicate (8 - j) 0 ++ [(j : Int)]
  | j, c :: s => if j < 8 then c :: grp (j + 1) s else 9 :: c :: grp 1 s
theorem grp_bytes : ∀ (s : List Int) (j : Nat), j ≤ 8 → Bytes s → Bytes (grp j s)
  | [], j, hj, _ => by
    rw [grp]
    exact Bytes.append (fun x hx => by have := List.eq_of_mem_replicate hx; omega) (Bytes.cons (by omega) (by omega) Bytes.nil)
  | c :: s, j, hj, h => by
    rw [grp]
    split
    · exact Bytes.cons h.head.1 h.head.2 (grp_bytes s (j + 1) (by omega) h.tail)
    · exact Bytes.cons (by omega) (by omega) (Bytes.cons h.head.1 h.head.2 (grp_bytes s 1 (by omega) h.tail))
/-- Whoever has ended stands ahead. -/
theorem dcmp_end : ∀ (t : List Int) (j j0 : Nat), j0 < j → j ≤ 8 → Bytes t → dcmp (List.replicate (8 - j) 0 ++ [(j0 : Int)]) (grp j t) = -1
  | [], j, j0, h, hj, _ => by
    rw [grp]
    generalize 8 - j = n
    induction n with
    | zero => simp only [List.replicate_zero, List.nil_append, dcmp]; rw [if_pos (by omega)]
    | succ n ih => rw [List.replicate_succ, List.cons_append, List.cons_append, dcmp, if_neg (by omega), if_neg (by omega), ih]
  | c :: t, j, j0, h, hj, ht => by
    rw [grp]
    by_cases h8 : j < 8
    · rw [if_pos h8, show 8 - j = (8 - (j + 1)) + 1 by omega, List.replicate_succ, List.cons_append, dcmp]
      by_cases h0 : (0 : Int) < c
      · rw [if_pos h0]
      · rw [if_neg h0, if_neg (by have := ht.head; omega)]
        exact dcmp_end t (j + 1) j0 (by omega) (by omega) ht.tail
    · rw [if_neg h8, show 8 - j = 0 by omega, List.replicate_zero, List.nil_append, dcmp, if_pos (by omega)]
theorem dcmp_flip : ∀ u v : List Int, dcmp v u = - dcmp u v
  | [], v => by cases v <;> rfl
  | a :: u, [] => rfl
  | a :: u, b :: v => by
    rw [dcmp, dcmp]
    by_cases h1 : a < b
    · have h2 : ¬ b < a := by omega
      simp [h1, h2]
    · by_cases h2 : b < a
      · simp [h1, h2]
      · simp [h1, h2, dcmp_flip u v]
/-- Groups are in the order of the texts; of two that are not alike none begins the other. -/
theorem dcmp_grp : ∀ (s t : List Int) (j : Nat), j ≤ 8 → Bytes s → Bytes t → dcmp (grp j s) (grp j t) = lcmp s t
  | [], [], j, _, _, _ => by
    rw [grp]
    generalize List.replicate (8 - j) 0 ++ [(j : Int)] = u
    show dcmp u u = 0
    induction u with
    | nil => rfl
    | cons a u ih => rw [dcmp, if_neg (by omega), if_neg (by omega), ih]
  | [], d :: t, j, hj, _, ht => by
    rw [grp, grp]
    by_cases h8 : j < 8
    · rw [if_pos h8, show 8 - j = (8 - (j + 1)) + 1 by omega, List.replicate_succ, List.cons_append, dcmp]
      by_cases h0 : (0 : Int) < d
      · rw [if_pos h0]; rfl
      · rw [if_neg h0, if_neg (by have := ht.head; omega)]
        exact dcmp_end t (j + 1) j (by omega) (by omega) ht.tail
    · rw [if_neg h8, show 8 - j = 0 by omega, List.replicate_zero, List.nil_append, dcmp, if_pos (by omega)]; rfl
  | c :: s, [], j, hj, hs, _ => by
    rw [dcmp_flip, grp, grp]
    by_cases h8 : j < 8
    · rw [if_pos h8, show 8 - j = (8 - (j + 1)) + 1 by omega, List.replicate_succ, List.cons_append, dcmp]
      by_cases h0 : (0 : Int) < c
      · rw [if_pos h0]; rfl
      · rw [if_neg h0, if_neg (by have := hs.head; omega), dcmp_end s (j + 1) j (by omega) (by omega) hs.tail]; rfl
    · rw [if_neg h8, show 8 - j = 0 by omega, List.replicate_zero, List.nil_append, dcmp, if_pos (by omega)]; rfl
  | c :: s, d :: t, j, hj, hs, ht => by
    rw [grp, grp]
    by_cases h8 : j < 8
    · rw [if_pos h8, if_pos h8, dcmp, lcmp, dcmp_grp s t (j + 1) (by omega) hs.tail ht.tail]
    · rw [if_neg h8, if_neg h8, dcmp, if_neg (by omega), if_neg (by omega), dcmp, lcmp, dcmp_grp s t 1 (by omega) hs.tail ht.tail]
theorem grp_open : ∀ (s : List Int) (j : Nat), j ≤ 8 → grp j s = s.take (8 - j) ++ List.replicate (8 - j - s.length) 0 ++ (if s.length ≤ 8 - j then [((j + s.length : Nat) : Int)] else 9 :: grp 0 (s.drop (8 - j)))
  | [], j, hj => by simp [grp]
  | c :: s, j, hj => by
    rw [grp]
    by_cases h8 : j < 8
    · rw [if_pos h8, grp_open s (j + 1) (by omega)]
      rw [show 8 - j = (8 - (j + 1)) + 1 by omega, List.take_succ_cons, List.drop_succ_cons, List.length_cons, show 8 - (j + 1) + 1 - (s.length + 1) = 8 - (j + 1) - s.length by omega]
      by_cases hl : s.length ≤ 8 - (j + 1)
      · rw [if_pos hl, if_pos (by omega), show j + 1 + s.length = j + (s.length + 1) by omega]
        rfl
      · rw [if_neg hl, if_neg (by omega)]
        rfl
    · obtain rfl : j = 8 := by omega
      rw [if_neg (by omega), if_neg (by simp)]
      simp [grp]
theorem textK_grp : ∀ (k : Nat) (s : List Int), s.length ≤ 8 * k → textK (k + 1) s = grp 0 s
  | k, s, h => by
    rw [textK, grp_open s 0 (by omega)]
    simp only [Nat.sub_zero, Nat.zero_add]
    by_cases h8 : s.length ≤ 8
    · rw [if_pos h8, if_pos h8]
    · rw [if_neg h8, if_neg h8]
      obtain ⟨m, rfl⟩ : ∃ m, k = m + 1 := ⟨k - 1, by omega⟩
      rw [textK_grp m (s.drop 8) (by rw [List.length_drop]; omega)]
theorem grp_length : ∀ (s : List Int) (j : Nat), (grp j s).length ≤ 2 * s.length + 9
  | [], j => by simp [grp]
  | c :: s, j => by
    rw [grp]
    have h1 := grp_length s (j + 1)
    have h2 := grp_length s 1
    split
    · simp only [List.length_cons]; omega
    · simp only [List.length_cons]; omega
end Go.Proofs.Ytephhhflifjcmaa.M
