/- Comparisons with three outcomes: of bytes, of whole numbers, one behind the other. No program in sight. -/
import Derived.Test.YtaonabfnagmogaaStMerge
import Derived.Lib.Bytealg
import Derived.Lib.Strings
import Derived.Shelf.SlSortCmp.Insertion
namespace Go.Proofs.Ytaonabfnagmogaa.St
open Go.Proofs Go.Proofs.Ytaonabfnagmogaa.Stable
/-- A comparison: whoever is not behind is ahead, or alike; and so on. -/
structure Cmp3 {α : Type} (c : α → α → Int) : Prop where
  flip : ∀ x y, c x y < 0 ↔ 0 < c y x
  tr : ∀ x y z, c x y ≤ 0 → c y z ≤ 0 → c x z ≤ 0
section
variable {α β : Type} {c c1 c2 : α → α → Int}
theorem Cmp3.self (h : Cmp3 c) (x : α) : c x x = 0 := by have := h.flip x x; omega
theorem Cmp3.zero (h : Cmp3 c) {x y : α} : c x y = 0 ↔ c y x = 0 := by have := h.flip x y; have := h.flip y x; omega
theorem Cmp3.lt_tr (h : Cmp3 c) {x y z : α} (h1 : c x y < 0) (h2 : c y z ≤ 0) : c x z < 0 := by
  have a := h.tr x y z (by omega) h2
  by_cases e : c x z = 0
  · have e' := h.zero.1 e
    have b := h.tr y z x h2 (by omega)
    have := h.flip x y
    omega
  · omega
theorem Cmp3.tr_lt (h : Cmp3 c) {x y z : α} (h1 : c x y ≤ 0) (h2 : c y z < 0) : c x z < 0 := by
  have a := h.tr x y z h1 (by omega)
  by_cases e : c x z = 0
  · have e' := h.zero.1 e
    have b := h.tr z x y (by omega) h1
    have := h.flip y z
    omega
  · omega
theorem Cmp3.ord (h : Cmp3 c) : Ord (ltOf c) where
  trans := fun x y z h1 h2 => by
    have h1 : c x y < 0 := of_decide_eq_true h1
    have h2 : c y z < 0 := of_decide_eq_true h2
    exact decide_eq_true (h.lt_tr h1 (by omega))
  skip := fun z x y h1 h2 => by
    have h1 : c z x < 0 := of_decide_eq_true h1
    have h2 : ¬ c y x < 0 := of_decide_eq_false h2
    have := h.flip y x
    exact decide_eq_true (h.lt_tr h1 (by omega))
  asym := fun x y h1 => by
    have h1 : c x y < 0 := of_decide_eq_true h1
    have := h.flip x y
    exact decide_eq_false (by omega)
theorem Cmp3.map (h : Cmp3 c) (f : β → α) : Cmp3 (fun x y => c (f x) (f y)) := ⟨fun _ _ => h.flip _ _, fun _ _ _ => h.tr _ _ _⟩
/-- One comparison, and behind it, of those alike, another one. -/
def lexC (c1 c2 : α → α → Int) (x y : α) : Int := if c1 x y = 0 then c2 x y else c1 x y
theorem Cmp3.lex (h1 : Cmp3 c1) (h2 : Cmp3 c2) : Cmp3 (lexC c1 c2) where
  flip := fun x y => by
    unfold lexC
    by_cases e : c1 x y = 0
    · rw [if_pos e, if_pos (h1.zero.1 e)]; exact h2.flip x y
    · rw [if_neg e, if_neg (fun e' => e (h1.zero.1 e'))]; exact h1.flip x y
  tr := fun x y z a b => by
    unfold lexC at *
    by_cases e1 : c1 x y = 0
    · rw [if_pos e1] at a
      by_cases e2 : c1 y z = 0
      · rw [if_pos e2] at b
        have e1' := h1.zero.1 e1
        have e2' := h1.zero.1 e2
        have p := h1.tr x y z (by omega) (by omega)
        have q := h1.tr z y x (by omega) (by omega)
        have := h1.flip x z; have := h1.flip z x
        have e3 : c1 x z = 0 := by omega
        rw [if_pos e3]; exact h2.tr x y z a b
      · rw [if_neg e2] at b
        have := h1.tr_lt (x := x) (y := y) (z := z) (by omega) (by omega)
        rw [if_neg (by omega)]; omega
    · rw [if_neg e1] at a
      by_cases e2 : c1 y z = 0
      · have := h1.lt_tr (x := x) (y := y) (z := z) (by omega) (by omega)
        rw [if_neg (by omega)]; omega
      · rw [if_neg e2] at b
        have := h1.lt_tr (x := x) (y := y) (z := z) (by omega) (by omega)
        rw [if_neg (by omega)]; omega
end
def cmpZ (x y : Int) : Int := if x < y then -1 else if y < x then 1 else 0
theorem cmpZ3 : Cmp3 cmpZ where
  flip := fun x y => by unfold cmpZ; split <;> split <;> (try split) <;> omega
  tr := fun x y z a b => by
    have h1 : ¬ y < x := by intro h; unfold cmpZ at a; rw [if_neg (by omega), if_pos h] at a; omega
    have h2 : ¬ z < y := by intro h; unfold cmpZ at b; rw [if_neg (by omega), if_pos h] at b; omega
    unfold cmpZ; split
    · omega
    · rw [if_neg (by omega)]; omega
theorem cmpB_flip : ∀ a b : List UInt8, Lib.compareBytes a b = - Lib.compareBytes b a
  | [], [] => rfl
  | [], _ :: _ => rfl
  | _ :: _, [] => rfl
  | a :: ar, b :: bt => by
    unfold Lib.compareBytes
    by_cases h1 : a < b
    · have h2 : ¬ b < a := by rw [UInt8.lt_iff_toNat_lt] at *; omega
      rw [if_pos h1, if_neg h2, if_pos h1]
    · by_cases h2 : b < a
      · rw [if_neg h1, if_pos h2, if_pos h2]; rfl
      · rw [if_neg h1, if_neg h2, if_neg h2, if_neg h1]; exact cmpB_flip ar bt
theorem cmpB_tr : ∀ a b c : List UInt8, Lib.compareBytes a b ≤ 0 → Lib.compareBytes b c ≤ 0 → Lib.compareBytes a c ≤ 0
  | [], _, [], _, _ => by simp [Lib.compareBytes]
  | [], _, _ :: _, _, _ => by simp [Lib.compareBytes]
  | _ :: _, [], _, h, _ => by simp [Lib.compareBytes] at h
  | _ :: _, _ :: _, [], _, h => by simp [Lib.compareBytes] at h
  | a :: ar, b :: bt, c :: ct, h1, h2 => by
    unfold Lib.compareBytes at h1 h2 ⊢
    simp only [UInt8.lt_iff_toNat_lt] at *
    by_cases x1 : a.toNat < b.toNat
    · by_cases y1 : b.toNat < c.toNat
      · rw [if_pos (by omega)]; omega
      · rw [if_neg y1] at h2
        by_cases y2 : c.toNat < b.toNat
        · rw [if_pos y2] at h2; omega
        · rw [if_pos (by omega)]; omega
    · rw [if_neg x1] at h1
      by_cases x2 : b.toNat < a.toNat
      · rw [if_pos x2] at h1; omega
      · rw [if_neg x2] at h1
        by_cases y1 : b.toNat < c.toNat
        · rw [if_pos (by omega)]; omega
        · rw [if_neg y1] at h2
          by_cases y2 : c.toNat < b.toNat
          · rw [if_pos y2] at h2; omega
          · rw [if_neg y2] at h2
            rw [if_neg (by omega), if_neg (by omega)]
            exact cmpB_tr ar bt ct h1 h2
def cmpS (x y : ByteArray) : Int := Lib.compareBytes x.data.toList y.data.toList
theorem cmpS3 : Cmp3 cmpS where
  flip := fun x y => by unfold cmpS; rw [cmpB_flip]; omega
  tr := fun x y z => cmpB_tr _ _ _
theorem cmpB_eq : ∀ a b : List UInt8, Lib.compareBytes a b = 0 ↔ a = b
  | [], [] => by simp [Lib.compareBytes]
  | [], _ :: _ => by simp [Lib.compareBytes]
  | _ :: _, [] => by simp [Lib.compareBytes]
  | a :: ar, b :: bt => by
    unfold Lib.compareBytes
    by_cases h1 : a < b
    · rw [if_pos h1]
      have : a ≠ b := by rintro rfl; rw [UInt8.lt_iff_toNat_lt] at h1; omega
      simp [this]
    · rw [if_neg h1]
      by_cases h2 : b < a
      · rw [if_pos h2]
        have : a ≠ b := by rintro rfl; rw [UInt8.lt_iff_toNat_lt] at h2; omega
        simp [this]
      · rw [if_neg h2, cmpB_eq ar bt]
        have : a = b := by rw [UInt8.lt_iff_toNat_lt] at *; exact UInt8.toNat_inj.1 (by omega)
        simp [this]
theorem cmpS_eq (x y : ByteArray) : cmpS x y = 0 ↔ x = y := by
  unfold cmpS
  rw [cmpB_eq]
  constructor
  · intro h
    cases x; cases y
    congr 1
    exact Array.toList_inj.1 h
  · rintro rfl; rfl
theorem toList_data (a : ByteArray) : a.toList = a.data.toList := Lib.toList_data a
theorem less_cmpB : ∀ a b : List UInt8, Go.Op.bytesLess a b = decide (Lib.compareBytes a b < 0)
  | [], [] => rfl
  | [], _ :: _ => rfl
  | _ :: _, [] => rfl
  | a :: ar, b :: bt => by
    unfold Go.Op.bytesLess Lib.compareBytes
    by_cases h1 : a < b
    · simp [h1]
    · by_cases h2 : b < a
      · have : (a == b) = false := by
          rw [beq_eq_false_iff_ne]; rintro rfl; exact h1 h2
        simp [h1, h2, this]
      · have : a = b := by rw [UInt8.lt_iff_toNat_lt] at *; exact UInt8.toNat_inj.1 (by omega)
        subst this
        simp [h1, less_cmpB ar bt]
theorem less_cmpS (a b : ByteArray) : Go.Op.bytesLess a.toList b.toList = decide (cmpS a b < 0) := by
  rw [toList_data, toList_data, less_cmpB]; rfl
theorem toList_eq (a b : ByteArray) : a.toList = b.toList ↔ a = b := by
  rw [toList_data, toList_data]
  constructor
  · intro h; cases a; cases b; congr 1; exact Array.toList_inj.1 h
  · rintro rfl; rfl
end Go.Proofs.Ytaonabfnagmogaa.St
