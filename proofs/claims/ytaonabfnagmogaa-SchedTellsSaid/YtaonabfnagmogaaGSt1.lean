/- The stable sort's functions: two neighbouring ranges turned round. -/
import Derived.Test.YtaonabfnagmogaaGSt0
namespace Go.Proofs.Ytaonabfnagmogaa.St.GSt
open Go.Proofs Go.Shelf Go.RowKit Go.Lib Go.Sort
set_option linter.unusedVariables false
set_option linter.unusedSimpArgs false
variable {P : Program} {α : Type} [Inhabited α]
set_option maxHeartbeats 4000000 in
set_option maxRecDepth 1000000 in
theorem rotate_w (L : StLays P) (k : Nat) (aE : ∀ w, (isAgg 27).run P w = .ok true w) (zE : ∀ w, (Go.sizeOf 27).run P w = .ok k w) (enc : α → List Value) (g : Nat) (cb : Array Value) (blk off cap a m b : Nat) (d0 d : Array α) (w0 w : World)
    (R : RowK enc k w0 blk off d0) (hs : d0.size = d.size) (S : SB enc k w0 blk off d w) (ham : a < m) (hmb : m < b) (hb : b ≤ d.size) (hsz : d.size < 4611686018427387904) (t : List α) (ht : Left m t (m - a) (b - m) d) :
    Calls P 36 #[.slice (some ⟨blk, off, none⟩) d.size cap, .int .i64 a, .int .i64 m, .int .i64 b, .func (.func g) #[] cb] w fun e w' => e = .returned (.tuple #[]) ∧ ∃ d', d'.toList = t ∧ d'.size = d.size ∧ SB enc k w0 blk off d' w' := by
  have mixed := L.mixed; have t3 := L.t3; have a3 := L.a3; have z3 := L.z3; have v3 := L.v3; have t4 := L.t4; have a4 := L.a4; have z4 := L.z4; have v4 := L.v4; have t22 := L.t22; have a22 := L.a22; have z22 := L.z22
  have FG := L.f36
  have e37 := L.e37
  have S0 : Aside (SB enc k w0 blk off d w) := S
  have HT : Aside (Left m t (m - a) (b - m) d) := ht
  have LL : Aside (StLays P) := L
  clear S ht L
  have c1 : ((m - a : Nat) : Int) = (m : Int) - (a : Int) := by omega
  have c2 : ((b - m : Nat) : Int) = (b : Int) - (m : Int) := by omega
  have C1 := aside (c1)
  have C2 := aside (c2)
  clear c1 c2
  go_enter FG, Try.ntmps36
  go_wp2_with fail
  go_loopg [10, 11] (b - a) (fun kx s10 s11 wr => ∃ (i j : Nat) (dk : Array α), s10 = .int .i64 i ∧ s11 = .int .i64 j ∧ 0 < i ∧ 0 < j ∧ kx = i + j ∧ i ≤ m ∧ m + j ≤ d.size ∧ dk.size = d.size ∧ Aside (SB enc k w0 blk off dk wr) ∧ Aside (Left m t i j dk))
  case atStart => exact ⟨m - a, b - m, d, by rw [C1.out], by rw [C2.out], by omega, by omega, by omega, by omega, by omega, rfl, S0, HT⟩
  case round =>
    clear S0 HT
    obtain ⟨i, j, dk, rfl, rfl, hi, hj, hkx, him, hmj, hds, S1, HL⟩ := hrel
    have call : ∀ (x y n : Nat), x + n ≤ d.size → y + n ≤ d.size → Calls P 37 #[.slice (some ⟨blk, off, none⟩) d.size cap, .int .i64 x, .int .i64 y, .int .i64 n, .func (.func g) #[] cb] wr fun e w' => e = .returned (.tuple #[]) ∧ SB enc k w0 blk off (swpR x y 0 n dk) w' := by
      intro x y n hx hy
      rw [← hds]
      exact swapRange_w LL.out k aE zE enc g cb blk off cap x y n d0 dk w0 wr R (by omega) S1.out (by omega) (by omega) (by omega)
    have CALL := aside (call)
    clear call
    by_cases he : i = j
    · subst he
      have c3 : ((m : Int) - (i : Int)) = ((m - i : Nat) : Int) := by omega
      have hc := CALL.out (m - i) m i (by omega) (by omega)
      have HL2 := aside (left_same HL.out)
      clear CALL HL
      go_wp2_with (go_at_fn 37; refine hc.mono ?_; rintro e w1 ⟨rfl, hw1⟩)
      go_end0
      exact ⟨rfl, _, HL2.out, by rw [swpR_size]; exact hds, hw1⟩
    · by_cases hg : j < i
      · have c3 : ((m : Int) - (i : Int)) = ((m - i : Nat) : Int) := by omega
        have hc := CALL.out (m - i) m j (by omega) (by omega)
        have HL2 := aside (left_great HL.out hg)
        clear CALL HL
        go_wp2_with (go_at_fn 37; refine hc.mono ?_; rintro e w1 ⟨rfl, hw1⟩)
        have S2 := aside (hw1)
        clear hw1 hc
        go_roundg (i - j + j)
        case measure => omega
        case rel => exact ⟨i - j, j, _, by go_num, rfl, by omega, by omega, rfl, by omega, by omega, by rw [swpR_size]; exact hds, S2, HL2⟩
      · have c3 : ((m : Int) - (i : Int)) = ((m - i : Nat) : Int) := by omega
        have c4 : ((m : Int) + (j : Int) - (i : Int)) = ((m + j - i : Nat) : Int) := by omega
        have hc := CALL.out (m - i) (m + j - i) i (by omega) (by omega)
        have HL2 := aside (left_less HL.out (by omega))
        clear CALL HL
        go_wp2_with (go_at_fn 37; refine hc.mono ?_; rintro e w1 ⟨rfl, hw1⟩)
        have S2 := aside (hw1)
        clear hw1 hc
        go_roundg (i + (j - i))
        case measure => omega
        case rel => exact ⟨i, j - i, _, rfl, by go_num, by omega, by omega, rfl, by omega, by omega, by rw [swpR_size]; exact hds, S2, HL2⟩
end Go.Proofs.Ytaonabfnagmogaa.St.GSt
