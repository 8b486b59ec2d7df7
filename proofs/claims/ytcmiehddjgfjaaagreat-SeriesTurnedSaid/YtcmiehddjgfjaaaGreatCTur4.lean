/- A part of the proof of LawSeriesTurned: contracts and plain laws, put together by a program of this session. -/
import Derived.Test.YtcmiehddjgfjaaaGreatCTur3
import Derived.Deep.Cut
import Derived.Deep.DeepCutAuto
import Derived.BigQuiet
import Derived.Lib.Strings
set_option linter.unusedVariables false
set_option linter.unusedSimpArgs false
set_option linter.unusedSectionVars false
set_option maxHeartbeats 8000000
set_option maxRecDepth 100000
namespace Go.Proofs.YtcmiehddjgfjaaaGreat.St.GSl
open Go.Proofs Go.Shelf Go.RowKit Go.Lib Go.Sort Go.Proofs.YtcmiehddjgfjaaaGreat.Stable
variable {P : Program} {α : Type} [Inhabited α]
theorem half_nat (i j : Nat) (hj : j < 4611686018427387904) (h : i < j) : ∃ h : Nat, ((i : Int) + (j : Int)) / 2 = (h : Int) ∧ i ≤ h ∧ h < j := ⟨(i + j) / 2, by omega, by omega, by omega⟩
theorem symLeft_w (L : StLays P) (k : Nat) (aE : ∀ w, (isAgg 62).run P w = .ok true w) (zE : ∀ w, (Go.sizeOf 62).run P w = .ok k w) (enc : α → List Value) (cf : α → α → Int) (g : Nat) (cb : Array Value) (eg : ∀ args w, (callFunc g args).run P w = .ok (.enter g args) w)
    (blk off cap a m b : Nat) (d0 d : Array α) (w0 w : World)
    (R : RowK enc k w0 blk off d0) (hs : d0.size = d.size) (hC : CmpB P g cb enc k cf blk off d.size w0) (O : Stable.Ord (ltOf cf)) (S : SB enc k w0 blk off d w) (hm : m = a + 1) (hmb : m < b) (hb : b ≤ d.size) (hsz : d.size < 4611686018427387904)
    (pre U V post : List α) (T : Two (ltOf cf) a m b pre U V post d) :
    Calls P 176 #[.slice (some ⟨blk, off, none⟩) d.size cap, .int .i64 a, .int .i64 m, .int .i64 b, .func (.func g) #[] cb] w fun e w' => e = .returned (.tuple #[]) ∧ ∃ d', d'.toList = pre ++ (merge (ltOf cf) U V ++ post) ∧ d'.size = d.size ∧ SB enc k w0 blk off d' w' := by
  have mixed := L.mixed; have t3 := L.t3; have a3 := L.a3; have z3 := L.z3; have v3 := L.v3; have t4 := L.t4; have a4 := L.a4; have z4 := L.z4; have v4 := L.v4; have t53 := L.t53; have a53 := L.a53; have z53 := L.z53; have t22 := L.t22; have a22 := L.a22; have z22 := L.z22; have t45 := L.t45
  have FG := L.f34
  have S0 : Aside (SB enc k w0 blk off d w) := S
  have HC : Aside (CmpB P g cb enc k cf blk off d.size w0) := hC
  have HT : Aside (Two (ltOf cf) a m b pre U V post d) := T
  have HO : Aside (Stable.Ord (ltOf cf)) := O
  have B0 : Aside (Bin (fun q => ltOf cf d[q]! d[a]!) m b m b) := Bin.start (T.mono1 O) (by omega)
  have HM : Aside (m = a + 1) := hm
  have am : a < m := by omega
  have tm : ((m : Int) - (a : Int) == 1) = true := by rw [beq_iff_eq]; omega
  have RR : Aside (RowK enc k w0 blk off d0) := R
  have HS : Aside (d0.size = d.size) := hs
  clear S hC T O hm L hs R
  go_enter FG, Tryz.ntmps176
  go_wp2_with fail
  go_loopg [10, 11] b (fun kx s10 s11 wr => ∃ (i j : Nat), s10 = .int .i64 i ∧ s11 = .int .i64 j ∧ m ≤ i ∧ i ≤ j ∧ j ≤ b ∧ Aside (kx = j - i + m) ∧ Aside (SB enc k w0 blk off d wr) ∧ Aside (Bin (fun q => ltOf cf d[q]! d[a]!) m b i j))
  case atStart => exact ⟨m, b, rfl, rfl, Nat.le_refl _, by omega, Nat.le_refl _, (show _ = _ by omega), S0, B0⟩
  case round =>
    clear S0 B0
    obtain ⟨i, j, rfl, rfl, hmi, hij, hjb, HK, S1, HB⟩ := hrel
    by_cases hlt : i < j
    · have hltz : (i : Int) < (j : Int) := by omega
      obtain ⟨h, hh, hih, hhj⟩ := half_nat i j (by omega) hlt
      have pH : (0 : Int) ≤ (h : Int) := by omega
      have bH : (h : Int) < (d.size : Int) := by omega
      have bA : (a : Int) < (d.size : Int) := by omega
      have lh : ∀ p : SBW enc k w0 blk off d, Sem.run P (loadCellsFrom ⟨blk, off + h * k, none⟩ 0 k #[]) p.w = .ok (enc d[h]!).toArray p.w := fun p => p.h.load RR.out HS.out.symm P h (by omega)
      have la : ∀ p : SBW enc k w0 blk off d, Sem.run P (loadCellsFrom ⟨blk, off + a * k, none⟩ 0 k #[]) p.w = .ok (enc d[a]!).toArray p.w := fun p => p.h.load RR.out HS.out.symm P a (by omega)
      have hcg : ∀ p : SBW enc k w0 blk off d, Calls P g (#[.agg (enc d[h]!).toArray, .agg (enc d[a]!).toArray] ++ cb) p.w fun e w' => e = .returned (.int .i64 (cf d[h]! d[a]!)) ∧ ∃ q : SBW enc k w0 blk off d, w' = q.w := fun p => HC.out.at p rfl _ _
      have HR : Aside (∀ v, ltOf cf d[h]! d[a]! = v → (if v = true then Bin (fun q => ltOf cf d[q]! d[a]!) m b (h + 1) j else Bin (fun q => ltOf cf d[q]! d[a]!) m b i h)) := fun v hv => by
        cases v with
        | true => exact HB.out.right hih hhj hv
        | false => exact HB.out.left hih hhj hv
      obtain ⟨x, hx⟩ : ∃ x, d[h]! = x := ⟨_, rfl⟩
      obtain ⟨y, hy⟩ : ∃ y, d[a]! = y := ⟨_, rfl⟩
      rw [hx] at lh hcg
      rw [hy] at la hcg
      have HX : Aside (d[h]! = x) := hx
      have HY : Aside (d[a]! = y) := hy
      clear hx hy
      by_cases hlv : cf x y < 0
      · have HL : Aside (ltOf cf d[h]! d[a]! = true) := by show _ = _; rw [HX.out, HY.out]; exact decide_eq_true hlv
        go_wp2_with fail
        haveI : Inhabited (SBW enc k w0 blk off d) := ⟨⟨_, S1.out⟩⟩
        refine wp_region_sb S1.out (by assumption) (by kernel_rfl) ?_
        repeat (quiet_step ((go_at_fn g; exact hcg _)))
        refine wpQuiet_nil ?_
        intro _ hw'
        obtain ⟨p, rfl⟩ := hw'
        go_wp2_with fail
        go_roundg (j - (h + 1) + m)
        case measure => have := HK.out; omega
        case rel => exact ⟨h + 1, j, by go_num, rfl, by omega, by omega, hjb, rfl, p.h, HR.out true HL.out⟩
      · have HL : Aside (ltOf cf d[h]! d[a]! = false) := by show _ = _; rw [HX.out, HY.out]; exact decide_eq_false hlv
        go_wp2_with fail
        haveI : Inhabited (SBW enc k w0 blk off d) := ⟨⟨_, S1.out⟩⟩
        refine wp_region_sb S1.out (by assumption) (by kernel_rfl) ?_
        repeat (quiet_step ((go_at_fn g; exact hcg _)))
        refine wpQuiet_nil ?_
        intro _ hw'
        obtain ⟨p, rfl⟩ := hw'
        go_wp2_with fail
        go_roundg (h - i + m)
        case measure => have := HK.out; omega
        case rel => exact ⟨i, h, rfl, rfl, hmi, by omega, by omega, rfl, p.h, HR.out false HL.out⟩
    · have hi : j = i := by omega
      subst hi
      have HD : Aside (MvR (pre ++ (merge (ltOf cf) U V ++ post)) j a d) := HT.out.one_left HO.out HM.out HB.out
      clear HB HK
      go_wp2_with fail
      go_loopg [13] (j - a) (fun kx s13 wr2 => ∃ (q : Nat) (dk : Array α), s13 = .int .i64 q ∧ a ≤ q ∧ q + 1 ≤ j ∧ Aside (kx = j - q) ∧ dk.size = d.size ∧ Aside (SB enc k w0 blk off dk wr2) ∧ Aside (MvR (pre ++ (merge (ltOf cf) U V ++ post)) j q dk))
      case atStart => exact ⟨a, d, rfl, Nat.le_refl _, by omega, rfl, rfl, S1, HD⟩
      case round =>
        clear S1 HD
        obtain ⟨q, dk, rfl, haq, hqj, HK, hds, S1, HD⟩ := hrel
        by_cases hq : q + 1 < j
        · have hqz : (q : Int) < (j : Int) - 1 := by omega
          have e0 : ((q : Int) + 1).toNat = q + 1 := by omega
          have p0 : (0 : Int) ≤ (q : Int) + 1 := by omega
          have b0 : (q : Int) + 1 < (d.size : Int) := by omega
          have b1 : (q : Int) < (d.size : Int) := by omega
          go_wp2_with fail
          have S2 : Aside (SB enc k w0 blk off (swp dk q (q + 1)) ((wr.drew.setCells blk (off + q * k) (enc dk[q + 1]!)).setCells blk (off + (q + 1) * k) (enc dk[q]!))) := S1.out.swapped RR.out q (q + 1) (by omega) (by omega)
          have la := S1.out.ld1 RR.out (by have := HS.out; omega) P q (by omega)
          have lb := S1.out.ld1 RR.out (by have := HS.out; omega) P (q + 1) (by omega)
          have sa := S1.out.st1 RR.out (by have := HS.out; omega) P q (by omega) dk[q + 1]!
          have sb := S1.out.st2 RR.out (by have := HS.out; omega) P q (q + 1) (by omega) (by omega) dk[q + 1]! dk[q]!
          have na : (enc dk[q]!).length = k := RR.out.hk _
          have nb : (enc dk[q + 1]!).length = k := RR.out.hk _
          generalize enc dk[q]! = cI at S2 la sb na
          generalize enc dk[q + 1]! = cJ at S2 lb sa sb nb
          clear S1
          go_big_region_o
          clear la lb sa sb
          generalize (wr.drew.setCells blk (off + q * k) cJ).setCells blk (off + (q + 1) * k) cI = w2 at S2 ⊢
          go_wp2
          go_roundg (j - (q + 1))
          case measure => have := HK.out; omega
          case rel => exact ⟨q + 1, swp dk q (q + 1), by go_num, by omega, by omega, rfl, by rw [size_swp]; exact hds, S2, HD.out.step hq⟩
        · have hqz : ¬ (q : Int) < (j : Int) - 1 := by omega
          go_wp2
          refine bodyPost_ret (results_none rfl _ _ _) rfl ?_
          exact ⟨rfl, dk, HD.out.done hq, hds, S1.out⟩
variable {P : Program} {α : Type} [Inhabited α]
theorem symRight_w (L : StLays P) (k : Nat) (aE : ∀ w, (isAgg 62).run P w = .ok true w) (zE : ∀ w, (Go.sizeOf 62).run P w = .ok k w) (enc : α → List Value) (cf : α → α → Int) (g : Nat) (cb : Array Value) (eg : ∀ args w, (callFunc g args).run P w = .ok (.enter g args) w)
    (blk off cap a m b : Nat) (d0 d : Array α) (w0 w : World)
    (R : RowK enc k w0 blk off d0) (hs : d0.size = d.size) (hC : CmpB P g cb enc k cf blk off d.size w0) (O : Stable.Ord (ltOf cf)) (S : SB enc k w0 blk off d w) (ham : a + 1 < m) (hm : b = m + 1) (hb : b ≤ d.size) (hsz : d.size < 4611686018427387904)
    (pre U V post : List α) (T : Two (ltOf cf) a m b pre U V post d) :
    Calls P 176 #[.slice (some ⟨blk, off, none⟩) d.size cap, .int .i64 a, .int .i64 m, .int .i64 b, .func (.func g) #[] cb] w fun e w' => e = .returned (.tuple #[]) ∧ ∃ d', d'.toList = pre ++ (merge (ltOf cf) U V ++ post) ∧ d'.size = d.size ∧ SB enc k w0 blk off d' w' := by
  have mixed := L.mixed; have t3 := L.t3; have a3 := L.a3; have z3 := L.z3; have v3 := L.v3; have t4 := L.t4; have a4 := L.a4; have z4 := L.z4; have v4 := L.v4; have t53 := L.t53; have a53 := L.a53; have z53 := L.z53; have t22 := L.t22; have a22 := L.a22; have z22 := L.z22; have t45 := L.t45
  have FG := L.f34
  have S0 : Aside (SB enc k w0 blk off d w) := S
  have HC : Aside (CmpB P g cb enc k cf blk off d.size w0) := hC
  have HT : Aside (Two (ltOf cf) a m b pre U V post d) := T
  have HO : Aside (Stable.Ord (ltOf cf)) := O
  have B0 : Aside (Bin (fun q => !ltOf cf d[m]! d[q]!) a m a m) := Bin.start (T.mono2 O) (by omega)
  have HM : Aside (b = m + 1) := hm
  have am : a < m := by omega
  have mb : m < b := by omega
  have tm : ((m : Int) - (a : Int) == 1) = false := by rw [beq_eq_false_iff_ne]; omega
  have tm2 : ((b : Int) - (m : Int) == 1) = true := by rw [beq_iff_eq]; omega
  have RR : Aside (RowK enc k w0 blk off d0) := R
  have HS : Aside (d0.size = d.size) := hs
  clear S hC T O hm L hs R
  go_enter FG, Tryz.ntmps176
  go_wp2_with fail
  go_loopg [14, 15] m (fun kx s10 s11 wr => ∃ (i j : Nat), s10 = .int .i64 i ∧ s11 = .int .i64 j ∧ a ≤ i ∧ i ≤ j ∧ j ≤ m ∧ Aside (kx = j - i + a) ∧ Aside (SB enc k w0 blk off d wr) ∧ Aside (Bin (fun q => !ltOf cf d[m]! d[q]!) a m i j))
  case atStart => exact ⟨a, m, rfl, rfl, Nat.le_refl _, by omega, Nat.le_refl _, (show _ = _ by omega), S0, B0⟩
  case round =>
    clear S0 B0
    obtain ⟨i, j, rfl, rfl, hmi, hij, hjb, HK, S1, HB⟩ := hrel
    by_cases hlt : i < j
    · have hltz : (i : Int) < (j : Int) := by omega
      obtain ⟨h, hh, hih, hhj⟩ := half_nat i j (by omega) hlt
      have pH : (0 : Int) ≤ (h : Int) := by omega
      have bH : (h : Int) < (d.size : Int) := by omega
      have bA : (m : Int) < (d.size : Int) := by omega
      have lh : ∀ p : SBW enc k w0 blk off d, Sem.run P (loadCellsFrom ⟨blk, off + h * k, none⟩ 0 k #[]) p.w = .ok (enc d[h]!).toArray p.w := fun p => p.h.load RR.out HS.out.symm P h (by omega)
      have la : ∀ p : SBW enc k w0 blk off d, Sem.run P (loadCellsFrom ⟨blk, off + m * k, none⟩ 0 k #[]) p.w = .ok (enc d[m]!).toArray p.w := fun p => p.h.load RR.out HS.out.symm P m (by omega)
      have hcg : ∀ p : SBW enc k w0 blk off d, Calls P g (#[.agg (enc d[m]!).toArray, .agg (enc d[h]!).toArray] ++ cb) p.w fun e w' => e = .returned (.int .i64 (cf d[m]! d[h]!)) ∧ ∃ q : SBW enc k w0 blk off d, w' = q.w := fun p => HC.out.at p rfl _ _
      have HR : Aside (∀ v, ltOf cf d[m]! d[h]! = v → (if v = true then Bin (fun q => !ltOf cf d[m]! d[q]!) a m i h else Bin (fun q => !ltOf cf d[m]! d[q]!) a m (h + 1) j)) := fun v hv => by
        cases v with
        | true => exact HB.out.left hih hhj (by simp [hv])
        | false => exact HB.out.right hih hhj (by simp [hv])
      obtain ⟨x, hx⟩ : ∃ x, d[h]! = x := ⟨_, rfl⟩
      obtain ⟨y, hy⟩ : ∃ y, d[m]! = y := ⟨_, rfl⟩
      rw [hx] at lh hcg
      rw [hy] at la hcg
      have HX : Aside (d[h]! = x) := hx
      have HY : Aside (d[m]! = y) := hy
      clear hx hy
      by_cases hlv : cf y x < 0
      · have HL : Aside (ltOf cf d[m]! d[h]! = true) := by show _ = _; rw [HY.out, HX.out]; exact decide_eq_true hlv
        go_wp2_with fail
        haveI : Inhabited (SBW enc k w0 blk off d) := ⟨⟨_, S1.out⟩⟩
        refine wp_region_sb S1.out (by assumption) (by kernel_rfl) ?_
        repeat (quiet_step ((go_at_fn g; exact hcg _)))
        refine wpQuiet_nil ?_
        intro _ hw'
        obtain ⟨p, rfl⟩ := hw'
        go_wp2_with fail
        go_roundg (h - i + a)
        case measure => have := HK.out; omega
        case rel => exact ⟨i, h, rfl, rfl, hmi, by omega, by omega, rfl, p.h, HR.out true HL.out⟩
      · have HL : Aside (ltOf cf d[m]! d[h]! = false) := by show _ = _; rw [HY.out, HX.out]; exact decide_eq_false hlv
        have hdn : decide (cf y x < 0) = false := decide_eq_false hlv
        go_wp2_with fail
        haveI : Inhabited (SBW enc k w0 blk off d) := ⟨⟨_, S1.out⟩⟩
        refine wp_region_sb S1.out (by assumption) (by kernel_rfl) ?_
        repeat (quiet_step ((go_at_fn g; exact hcg _)))
        refine wpQuiet_nil ?_
        intro _ hw'
        obtain ⟨p, rfl⟩ := hw'
        go_wp2_with fail
        go_roundg (j - (h + 1) + a)
        case measure => have := HK.out; omega
        case rel => exact ⟨h + 1, j, by go_num, rfl, by omega, by omega, hjb, rfl, p.h, HR.out false HL.out⟩
    · have hi : j = i := by omega
      subst hi
      have HD : Aside (MvL (pre ++ (merge (ltOf cf) U V ++ post)) j m d) := HT.out.one_right HO.out HM.out HB.out
      clear HB HK
      go_wp2_with fail
      go_loopg [17] (m - j) (fun kx s17 wr2 => ∃ (q : Nat) (dk : Array α), s17 = .int .i64 q ∧ q ≤ m ∧ j ≤ q ∧ Aside (kx = q - j) ∧ dk.size = d.size ∧ Aside (SB enc k w0 blk off dk wr2) ∧ Aside (MvL (pre ++ (merge (ltOf cf) U V ++ post)) j q dk))
      case atStart => exact ⟨m, d, rfl, Nat.le_refl _, by omega, rfl, rfl, S1, HD⟩
      case round =>
        clear S1 HD
        obtain ⟨q, dk, rfl, haq, hqj, HK, hds, S1, HD⟩ := hrel
        by_cases hq : j < q
        · obtain ⟨q, rfl⟩ : ∃ r, q = r + 1 := ⟨q - 1, by omega⟩
          have hqz : (j : Int) < (q : Int) + 1 := by omega
          have e0 : ((q : Int) + 1).toNat = q + 1 := by omega
          have p0 : (0 : Int) ≤ (q : Int) + 1 := by omega
          have b0 : (q : Int) + 1 < (d.size : Int) := by omega
          have b1 : (q : Int) < (d.size : Int) := by omega
          have hwp : IntKind.i64.wrap (q : Int) = (q : Int) := by rw [IntKind.wrap_i64]; omega
          go_wp2_with fail
          have S2 : Aside (SB enc k w0 blk off (swp dk (q + 1) q) ((wr.drew.setCells blk (off + (q + 1) * k) (enc dk[q]!)).setCells blk (off + q * k) (enc dk[q + 1]!))) := S1.out.swapped RR.out (q + 1) q (by omega) (by omega)
          have la := S1.out.ld1 RR.out (by have := HS.out; omega) P (q + 1) (by omega)
          have lb := S1.out.ld1 RR.out (by have := HS.out; omega) P q (by omega)
          have sa := S1.out.st1 RR.out (by have := HS.out; omega) P (q + 1) (by omega) dk[q]!
          have sb := S1.out.st2 RR.out (by have := HS.out; omega) P (q + 1) q (by omega) (by omega) dk[q]! dk[q + 1]!
          have na : (enc dk[q + 1]!).length = k := RR.out.hk _
          have nb : (enc dk[q]!).length = k := RR.out.hk _
          generalize enc dk[q + 1]! = cI at S2 la sb na
          generalize enc dk[q]! = cJ at S2 lb sa sb nb
          clear S1
          go_big_region_o
          clear la lb sa sb
          generalize (wr.drew.setCells blk (off + (q + 1) * k) cJ).setCells blk (off + q * k) cI = w2 at S2 ⊢
          go_wp2
          go_roundg (q - j)
          case measure => have := HK.out; omega
          case rel => exact ⟨q, swp dk (q + 1) q, by go_num, by omega, by omega, rfl, by rw [size_swp]; exact hds, S2, HD.out.step hq⟩
        · have hqz : ¬ (j : Int) < (q : Int) := by omega
          go_wp2
          refine bodyPost_ret (results_none rfl _ _ _) rfl ?_
          exact ⟨rfl, dk, HD.out.done hq, hds, S1.out⟩
variable {P : Program} {α : Type} [Inhabited α]
theorem mid_way (a m b : Nat) (am : a < m) (mb : m < b) : ∃ mid lo hi : Nat, ((a : Int) + (b : Int)) / 2 = (mid : Int) ∧ Mid a m b mid lo hi ∧ ((mid < m ∧ (mid : Int) + (m : Int) - (b : Int) = (lo : Int) ∧ hi = mid) ∨ (¬ mid < m ∧ lo = a ∧ hi = m)) := by
  by_cases h : (a + b) / 2 < m
  · exact ⟨(a + b) / 2, (a + b) / 2 + m - b, (a + b) / 2, by omega, ⟨am, mb, rfl, .inl ⟨h, by omega, rfl⟩⟩, .inl ⟨h, by omega, rfl⟩⟩
  · exact ⟨(a + b) / 2, a, m, by omega, ⟨am, mb, rfl, .inr ⟨by omega, rfl, rfl⟩⟩, .inr ⟨h, rfl, rfl⟩⟩
/-- What a call of symMerge does. -/
def SymDoes (P : Program) (enc : α → List Value) (k : Nat) (lt : α → α → Bool) (g : Nat) (cb : Array Value) (blk off cap a m b : Nat) (d : Array α) (w0 w : World) : Prop :=
  ∀ pre U V post : List α, Two lt a m b pre U V post d → Calls P 176 #[.slice (some ⟨blk, off, none⟩) d.size cap, .int .i64 a, .int .i64 m, .int .i64 b, .func (.func g) #[] cb] w fun e w' => e = .returned (.tuple #[]) ∧ ∃ d', d'.toList = pre ++ (merge lt U V ++ post) ∧ d'.size = d.size ∧ SB enc k w0 blk off d' w'
theorem symMid_w (L : StLays P) (k : Nat) (aE : ∀ w, (isAgg 62).run P w = .ok true w) (zE : ∀ w, (Go.sizeOf 62).run P w = .ok k w) (enc : α → List Value) (cf : α → α → Int) (g : Nat) (cb : Array Value) (eg : ∀ args w, (callFunc g args).run P w = .ok (.enter g args) w)
    (blk off cap a m b : Nat) (d0 d : Array α) (w0 w : World)
    (R : RowK enc k w0 blk off d0) (hs : d0.size = d.size) (hC : CmpB P g cb enc k cf blk off d.size w0) (O : Stable.Ord (ltOf cf)) (S : SB enc k w0 blk off d w) (ham : a + 1 < m) (hmb : m + 1 < b) (hb : b ≤ d.size) (hsz : d.size < 4611686018427387904)
    (pre U V post : List α) (T : Two (ltOf cf) a m b pre U V post d)
    (IH : ∀ (a' m' b' : Nat) (d' : Array α) (w' : World), b' - a' < b - a → d'.size = d.size → a' < m' → m' < b' → b' ≤ d.size → SB enc k w0 blk off d' w' → SymDoes P enc k (ltOf cf) g cb blk off cap a' m' b' d' w0 w') :
    Calls P 176 #[.slice (some ⟨blk, off, none⟩) d.size cap, .int .i64 a, .int .i64 m, .int .i64 b, .func (.func g) #[] cb] w fun e w' => e = .returned (.tuple #[]) ∧ ∃ d', d'.toList = pre ++ (merge (ltOf cf) U V ++ post) ∧ d'.size = d.size ∧ SB enc k w0 blk off d' w' := by
  obtain ⟨mid, lo, hi, hmid, M, way⟩ := mid_way a m b (by omega) (by omega)
  obtain ⟨f1, f2, f3, f4, f5, f6, f7⟩ := M.facts
  have B0 : Aside (Bin (fun c => !ltOf cf d[mid + m - 1 - c]! d[c]!) lo hi lo hi) := Bin.start (T.mono3 O f1 f3 f7) f2
  have F7 := aside (f7)
  have mixed := L.mixed; have t3 := L.t3; have a3 := L.a3; have z3 := L.z3; have v3 := L.v3; have t4 := L.t4; have a4 := L.a4; have z4 := L.z4; have v4 := L.v4; have t53 := L.t53; have a53 := L.a53; have z53 := L.z53; have t22 := L.t22; have a22 := L.a22; have z22 := L.z22; have t45 := L.t45
  have FG := L.f34
  have e34 := L.e34
  have e36 := L.e36
  have S0 : Aside (SB enc k w0 blk off d w) := S
  have HC : Aside (CmpB P g cb enc k cf blk off d.size w0) := hC
  have HT : Aside (Two (ltOf cf) a m b pre U V post d) := T
  have HO : Aside (Stable.Ord (ltOf cf)) := O
  have HM : Aside (Mid a m b mid lo hi) := M
  have HI := aside (IH)
  have tm : ((m : Int) - (a : Int) == 1) = false := by rw [beq_eq_false_iff_ne]; omega
  have tm2 : ((b : Int) - (m : Int) == 1) = false := by rw [beq_eq_false_iff_ne]; omega
  have RR : Aside (RowK enc k w0 blk off d0) := R
  have HS : Aside (d0.size = d.size) := hs
  have LL : Aside (StLays P) := L
  clear S hC T O M L hs R IH f7
  go_enter FG, Tryz.ntmps176
  have WAY := aside (way)
  have pp : ∃ pp : Nat, (mid : Int) + (m : Int) - 1 = (pp : Int) ∧ pp = mid + m - 1 := ⟨mid + m - 1, by omega, rfl⟩
  obtain ⟨pp, epp, hpp⟩ := pp
  have HPP := aside (hpp)
  have hpl : pp < d.size + d.size := by omega
  clear way hpp
  go_upto_if 140 with fail
  go_cut [20, 21] from 138 to 146 (fun s20 s21 wx => s20 = .int .i64 lo ∧ s21 = .int .i64 hi ∧ wx = w)
  case first =>
    rcases WAY.out with ⟨w1, eLo, rfl⟩ | ⟨w1, rfl, rfl⟩
    · go_wp2_with fail
      go_meet
      exact ⟨rfl, rfl, rfl⟩
    · go_wp2_with fail
      go_meet
      exact ⟨rfl, rfl, rfl⟩
  case rest =>
    obtain ⟨rfl, rfl, rfl⟩ := hcut
    clear WAY
    go_wp2_with fail
    go_loopg [20, 21] (hi - lo) (fun kx s20 s21 wr => ∃ (i j : Nat), s20 = .int .i64 i ∧ s21 = .int .i64 j ∧ lo ≤ i ∧ i ≤ j ∧ j ≤ hi ∧ Aside (kx = j - i) ∧ Aside (SB enc k w0 blk off d wr) ∧ Aside (Bin (fun c => !ltOf cf d[mid + m - 1 - c]! d[c]!) lo hi i j))
    case atStart => exact ⟨lo, hi, rfl, rfl, Nat.le_refl _, f2, Nat.le_refl _, rfl, S0, B0⟩
    case round =>
      clear S0 B0
      obtain ⟨i, j, rfl, rfl, hmi, hij, hjb, HK, S1, HB⟩ := hrel
      by_cases hlt : i < j
      · have hltz : (i : Int) < (j : Int) := by omega
        obtain ⟨c, hh, hih, hhj⟩ := half_nat i j (by omega) hlt
        obtain ⟨g1, g2, g3⟩ := F7.out c (by omega) (by omega)
        have q1 : c ≤ pp := by have := HPP.out; omega
        have q2 : pp - c < b := by have := HPP.out; omega
        have q3 : mid + m - 1 - c = pp - c := by have := HPP.out; omega
        have Q3 := aside (q3)
        clear g1 g2 g3 q3
        have e0 : ((pp : Int) - (c : Int)).toNat = pp - c := by omega
        have p0 : (0 : Int) ≤ (pp : Int) - (c : Int) := by omega
        have rP : IntKind.i64.wrap ((pp : Int) - (c : Int)) = (pp : Int) - (c : Int) := by rw [IntKind.wrap_i64]; omega
        have b0 : (pp : Int) - (c : Int) < (d.size : Int) := by omega
        have pH : (0 : Int) ≤ (c : Int) := by omega
        have bH : (c : Int) < (d.size : Int) := by omega
        have lh : ∀ p : SBW enc k w0 blk off d, Sem.run P (loadCellsFrom ⟨blk, off + (pp - c) * k, none⟩ 0 k #[]) p.w = .ok (enc d[pp - c]!).toArray p.w := fun p => p.h.load RR.out HS.out.symm P (pp - c) (by omega)
        have la : ∀ p : SBW enc k w0 blk off d, Sem.run P (loadCellsFrom ⟨blk, off + c * k, none⟩ 0 k #[]) p.w = .ok (enc d[c]!).toArray p.w := fun p => p.h.load RR.out HS.out.symm P c (by omega)
        have hcg : ∀ p : SBW enc k w0 blk off d, Calls P g (#[.agg (enc d[pp - c]!).toArray, .agg (enc d[c]!).toArray] ++ cb) p.w fun e w' => e = .returned (.int .i64 (cf d[pp - c]! d[c]!)) ∧ ∃ q : SBW enc k w0 blk off d, w' = q.w := fun p => HC.out.at p rfl _ _
        have HR : Aside (∀ v, ltOf cf d[pp - c]! d[c]! = v → (if v = true then Bin (fun c => !ltOf cf d[mid + m - 1 - c]! d[c]!) lo hi i c else Bin (fun c => !ltOf cf d[mid + m - 1 - c]! d[c]!) lo hi (c + 1) j)) := fun v hv => by
          cases v with
          | true => exact HB.out.left hih hhj (by simp only [Q3.out]; simp [hv])
          | false => exact HB.out.right hih hhj (by simp only [Q3.out]; simp [hv])
        obtain ⟨x, hx⟩ : ∃ x, d[pp - c]! = x := ⟨_, rfl⟩
        obtain ⟨y, hy⟩ : ∃ y, d[c]! = y := ⟨_, rfl⟩
        rw [hx] at lh hcg
        rw [hy] at la hcg
        have HX : Aside (d[pp - c]! = x) := hx
        have HY : Aside (d[c]! = y) := hy
        clear hx hy
        by_cases hlv : cf x y < 0
        · have HL : Aside (ltOf cf d[pp - c]! d[c]! = true) := by show _ = _; rw [HX.out, HY.out]; exact decide_eq_true hlv
          go_wp2_with fail
          haveI : Inhabited (SBW enc k w0 blk off d) := ⟨⟨_, S1.out⟩⟩
          refine wp_region_sb S1.out (by assumption) (by kernel_rfl) ?_
          repeat (quiet_step ((go_at_fn g; exact hcg _)))
          refine wpQuiet_nil ?_
          intro _ hw'
          obtain ⟨p, rfl⟩ := hw'
          go_wp2_with fail
          go_roundg (c - i)
          case measure => have := HK.out; omega
          case rel => exact ⟨i, c, rfl, rfl, hmi, by omega, by omega, rfl, p.h, HR.out true HL.out⟩
        · have HL : Aside (ltOf cf d[pp - c]! d[c]! = false) := by show _ = _; rw [HX.out, HY.out]; exact decide_eq_false hlv
          have hdn : decide (cf x y < 0) = false := decide_eq_false hlv
          go_wp2_with fail
          haveI : Inhabited (SBW enc k w0 blk off d) := ⟨⟨_, S1.out⟩⟩
          refine wp_region_sb S1.out (by assumption) (by kernel_rfl) ?_
          repeat (quiet_step ((go_at_fn g; exact hcg _)))
          refine wpQuiet_nil ?_
          intro _ hw'
          obtain ⟨p, rfl⟩ := hw'
          go_wp2_with fail
          go_roundg (j - (c + 1))
          case measure => have := HK.out; omega
          case rel => exact ⟨c + 1, j, by go_num, rfl, by omega, by omega, hjb, rfl, p.h, HR.out false HL.out⟩
      · have hi' : j = i := by omega
        subst hi'
        have hP : Parts (ltOf cf) a m b mid j (mid + m - j) U V := HT.out.parts HO.out HM.out HB.out
        have HP : Aside (Parts (ltOf cf) a m b mid j (mid + m - j) U V) := hP
        have eE : ∃ e : Nat, (mid : Int) + (m : Int) - (j : Int) = (e : Int) ∧ mid + m - j = e := ⟨mid + m - j, by omega, rfl⟩
        obtain ⟨e, eE, he⟩ := eE
        rw [he] at hP HP
        have k1 := hP.sa; have k2 := hP.sm; have k3 := hP.smid; have k4 := hP.me; have k5 := hP.eb; have k6 := hP.mide
        clear HB HK he hP F7
        go_upto_region 39 with fail
        go_cut [185] from 178 to 184 (fun s wx => s = .bool (decide (j < m) && decide (m < e)) ∧ wx = wr)
        case first =>
          by_cases h1 : j < m
          · go_wp2_with fail
            go_meet
            exact ⟨by simp [h1], rfl⟩
          · go_wp2_with fail
            go_meet
            exact ⟨by simp [h1], rfl⟩
        case rest =>
          obtain ⟨rfl, rfl⟩ := hcut
          go_upto_if 185 with fail
          go_cut [] from 185 to 191 (fun wx => ∃ d1 : Array α, Aside (St1 U V pre post a m j e d.size d1) ∧ Aside (SB enc k w0 blk off d1 wx))
          case first =>
            by_cases h1 : j < m
            · by_cases h2 : m < e
              · have hc := rotate_w LL.out k aE zE enc g cb blk off cap j m e d0 d w0 _ RR.out HS.out S1.out h1 h2 (by omega) hsz _ (HP.out.left HT.out.la HT.out.list)
                have HC2 := aside (hc)
                clear hc
                go_wp2_with (go_at_fn 180; refine HC2.out.mono ?_; rintro e1 w1 ⟨rfl, d1, hd1, hd2, hd3⟩)
                go_meet
                exact ⟨d1, ⟨hd1, hd2⟩, hd3⟩
              · go_wp2_with fail
                go_meet
                exact ⟨d, HP.out.st1_none HT.out.list rfl (fun h => h2 h.2), S1⟩
            · go_wp2_with fail
              go_meet
              exact ⟨d, HP.out.st1_none HT.out.list rfl (fun h => h1 h.1), S1⟩
          case rest =>
            clear S1
            obtain ⟨d1, HD1, S1⟩ := hcut
            go_upto_region 41 with fail
            go_cut [199] from 192 to 198 (fun s wx => s = .bool (decide (a < j) && decide (j < mid)) ∧ wx = wc)
            case first =>
              by_cases h1 : a < j
              · go_wp2_with fail
                go_meet
                exact ⟨by simp [h1], rfl⟩
              · go_wp2_with fail
                go_meet
                exact ⟨by simp [h1], rfl⟩
            case rest =>
              obtain ⟨rfl, rfl⟩ := hcut
              go_upto_if 199 with fail
              go_cut [] from 199 to 205 (fun wx => ∃ d2 : Array α, Aside (St2 (ltOf cf) U V pre post a m j e d.size d2) ∧ Aside (SB enc k w0 blk off d2 wx))
              case first =>
                by_cases h1 : a < j
                · by_cases h2 : j < mid
                  · have hc := HI.out a j mid d1 _ (by omega) HD1.out.2 h1 h2 (by omega) S1.out _ _ _ _ (HD1.out.two HP.out HT.out.la)
                    rw [HD1.out.2] at hc
                    have HC2 := aside (hc)
                    clear hc
                    go_wp2_with (go_at_fn 176; refine HC2.out.mono ?_; rintro e1 w1 ⟨rfl, d2, hd1, hd2, hd3⟩)
                    go_meet
                    exact ⟨d2, St2.of hd1 hd2, hd3⟩
                  · go_wp2_with fail
                    go_meet
                    exact ⟨d1, HD1.out.none HP.out (fun h => h2 h.2), S1⟩
                · go_wp2_with fail
                  go_meet
                  exact ⟨d1, HD1.out.none HP.out (fun h => h1 h.1), S1⟩
              case rest =>
                clear S1 HD1
                obtain ⟨d2, HD2, S2⟩ := hcut
                by_cases h1 : mid < e
                · by_cases h2 : e < b
                  · have hc := HI.out mid e b d2 _ (by omega) HD2.out.2 h1 h2 (by omega) S2.out _ _ _ _ (HD2.out.two HP.out HT.out.la)
                    rw [HD2.out.2] at hc
                    have HC2 := aside (hc)
                    clear hc
                    go_wp2_with (go_at_fn 176; refine HC2.out.mono ?_; rintro e1 w1 ⟨rfl, d3, hd1, hd2, hd3⟩)
                    go_end0
                    have h3 := St3.of (post := post) (n := d.size) HP.out hd1 hd2
                    exact ⟨rfl, d3, h3.1, h3.2, hd3⟩
                  · go_wp2_with fail
                    go_end0
                    have h3 := HD2.out.none HP.out (fun h => h2 h.2)
                    exact ⟨rfl, d2, h3.1, h3.2, S2.out⟩
                · go_wp2_with fail
                  go_end0
                  have h3 := HD2.out.none HP.out (fun h => h1 h.1)
                  exact ⟨rfl, d2, h3.1, h3.2, S2.out⟩
/-- Two sorted neighbours in one. -/
theorem symMerge_w (L : StLays P) (k : Nat) (aE : ∀ w, (isAgg 62).run P w = .ok true w) (zE : ∀ w, (Go.sizeOf 62).run P w = .ok k w) (enc : α → List Value) (cf : α → α → Int) (g : Nat) (cb : Array Value) (eg : ∀ args w, (callFunc g args).run P w = .ok (.enter g args) w)
    (blk off cap n : Nat) (d0 : Array α) (w0 : World) (R : RowK enc k w0 blk off d0) (hs : d0.size = n) (hC : CmpB P g cb enc k cf blk off n w0) (O : Stable.Ord (ltOf cf)) (hsz : n < 4611686018427387904) :
    ∀ (q a m b : Nat) (d : Array α) (w : World), b - a ≤ q → d.size = n → a < m → m < b → b ≤ n → SB enc k w0 blk off d w → SymDoes P enc k (ltOf cf) g cb blk off cap a m b d w0 w
  | 0, a, m, b, d, w, hq, _, h1, h2, _, _ => by omega
  | q + 1, a, m, b, d, w, hq, hd, h1, h2, hb, S => by
    subst hd
    intro pre U V post T
    by_cases c1 : m = a + 1
    · exact symLeft_w L k aE zE enc cf g cb eg blk off cap a m b d0 d w0 w R hs hC O S c1 h2 hb hsz pre U V post T
    · by_cases c2 : b = m + 1
      · exact symRight_w L k aE zE enc cf g cb eg blk off cap a m b d0 d w0 w R hs hC O S (by omega) c2 hb hsz pre U V post T
      · exact symMid_w L k aE zE enc cf g cb eg blk off cap a m b d0 d w0 w R hs hC O S (by omega) (by omega) hb hsz pre U V post T
          (fun a' m' b' d' w' hlt hd' x1 x2 x3 S' => symMerge_w L k aE zE enc cf g cb eg blk off cap _ d0 w0 R hs hC O hsz q a' m' b' d' w' (by omega) hd' x1 x2 (by omega) S')
variable {P : Program} {α : Type} [Inhabited α]
theorem insertion_w (L : StLays P) (k : Nat) (aE : ∀ w, (isAgg 62).run P w = .ok true w) (zE : ∀ w, (Go.sizeOf 62).run P w = .ok k w) (enc : α → List Value) (cf : α → α → Int) (g : Nat) (cb : Array Value) (eg : ∀ args w, (callFunc g args).run P w = .ok (.enter g args) w)
    (blk off cap a b n : Nat) (d0 d : Array α) (w0 w : World)
    (R : RowK enc k w0 blk off d0) (hs : d0.size = n) (hn : d.size = n) (hC : CmpB P g cb enc k cf blk off n w0) (O : Stable.Ord (ltOf cf)) (S : SB enc k w0 blk off d w) (hsz : n < 4611686018427387904)
    (pre seg post : List α) (T : d.toList = pre ++ (seg ++ post)) (la : pre.length = a) (lb : seg.length + a = b) :
    Calls P 175 #[.slice (some ⟨blk, off, none⟩) n cap, .int .i64 a, .int .i64 b, .func (.func g) #[] cb] w fun e w' => e = .returned (.tuple #[]) ∧ ∃ d', d'.toList = pre ++ (isort (ltOf cf) seg ++ post) ∧ d'.size = n ∧ SB enc k w0 blk off d' w' := by
  have hbn : b ≤ n := by
    have h1 : d.toList.length = n := by rw [Array.length_toList]; exact hn
    rw [T] at h1; simp at h1; omega
  have mixed := L.mixed; have t3 := L.t3; have a3 := L.a3; have z3 := L.z3; have v3 := L.v3; have t4 := L.t4; have a4 := L.a4; have z4 := L.z4; have v4 := L.v4; have t22 := L.t22; have a22 := L.a22; have z22 := L.z22; have t45 := L.t45
  have FG := L.f33
  have HC : Aside (CmpB P g cb enc k cf blk off n w0) := hC
  have HO : Aside (Stable.Ord (ltOf cf)) := O
  have RR : Aside (RowK enc k w0 blk off d0) := R
  have HS : Aside (d0.size = n) := hs
  have S0 : Aside (SB enc k w0 blk off d w) := S
  have T0 : Aside (Outer (ltOf cf) pre seg post a (a + 1) d) := Outer.start T
  have LA : Aside (pre.length = a) := la
  have LB : Aside (seg.length + a = b) := lb
  have hab : a ≤ b := by omega
  have HN : Aside (d.size = n) := hn
  clear hC O R hs S T la lb L hn
  go_enter FG, Tryz.ntmps175
  go_wp2_with fail
  go_loopg [8] (b - a) (fun g1 vi wr => ∃ (i : Nat) (dk : Array α), vi = .int .i64 i ∧ a < i ∧ i ≤ b + 1 ∧ b + 1 - i ≤ g1 + 1 ∧ Aside (dk.size = n) ∧ Aside (SB enc k w0 blk off dk wr) ∧ Aside (Outer (ltOf cf) pre seg post a i dk))
  case atStart => exact ⟨a + 1, d, by go_num, by omega, by omega, by omega, HN, S0, T0⟩
  case round =>
    clear S0 T0 HN
    obtain ⟨i, dk, rfl, hai, hib, hg1, HN, S1, HT⟩ := hrel
    by_cases hlt : i < b
    · have hltz : (i : Int) < (b : Int) := by omega
      obtain ⟨xi, hIns, hOut⟩ := HT.out.next hai (by have := LB.out; omega)
      have HI := aside hIns
      have HOU := aside hOut
      clear hIns hOut HT
      obtain ⟨wo, hwo⟩ : ∃ wo : World, wo = wr := ⟨_, rfl⟩
      subst hwo
      go_wp2_with fail
      go_loopg [9] i (fun g2 vj wr2 => ∃ (j : Nat) (dj : Array α), vj = .int .i64 j ∧ a ≤ j ∧ j ≤ i ∧ j ≤ g2 ∧ Aside (dj.size = n) ∧ Aside (SB enc k w0 blk off dj wr2) ∧ Aside (Ins (ltOf cf) pre (isort (ltOf cf) (seg.take (i - a))) (seg.drop (i + 1 - a) ++ post) xi a j dj))
      case atStart => exact ⟨i, dk, rfl, by omega, Nat.le_refl _, Nat.le_refl _, HN, S1, HI⟩
      case round =>
        clear HN S1 HI
        obtain ⟨j, dj, rfl, haj, hji, hg2, HN, S1, HI⟩ := hrel
        have out : (j ≤ a ∨ ltOf cf dj[j]! dj[j - 1]! = false) → Outer (ltOf cf) pre seg post a (i + 1) dj := fun hst => HOU.out dj (HI.out.done HO.out LA.out (isort_sorted HO.out _) hst)
        have OUT := aside out
        clear out
        by_cases hja : a < j
        · have hjaz : (a : Int) < (j : Int) := by omega
          obtain ⟨jp, rfl⟩ : ∃ jp, j = jp + 1 := ⟨j - 1, by omega⟩
          have hwp : IntKind.i64.wrap (jp : Int) = (jp : Int) := by rw [IntKind.wrap_i64]; omega
          have jz : (jp : Int) + 1 < (n : Int) := by omega
          have jz1 : (jp : Int) < (n : Int) := by omega
          have hjaz' : (a : Int) < (jp : Int) + 1 := by omega
          have p0 : (0 : Int) ≤ (jp : Int) + 1 := by omega
          have e0 : ((jp : Int) + 1).toNat = jp + 1 := by omega
          have hsd : dj.size = d0.size := by rw [HN.out, HS.out]
          have lj : ∀ p : SBW enc k w0 blk off dj, Sem.run P (loadCellsFrom ⟨blk, off + (jp + 1) * k, none⟩ 0 k #[]) p.w = .ok (enc dj[jp + 1]!).toArray p.w := fun p => p.h.load RR.out hsd P (jp + 1) (by have := HN.out; omega)
          have lp : ∀ p : SBW enc k w0 blk off dj, Sem.run P (loadCellsFrom ⟨blk, off + jp * k, none⟩ 0 k #[]) p.w = .ok (enc dj[jp]!).toArray p.w := fun p => p.h.load RR.out hsd P jp (by have := HN.out; omega)
          have hcg : ∀ p : SBW enc k w0 blk off dj, Calls P g (#[.agg (enc dj[jp + 1]!).toArray, .agg (enc dj[jp]!).toArray] ++ cb) p.w fun e w' => e = .returned (.int .i64 (cf dj[jp + 1]! dj[jp]!)) ∧ ∃ q : SBW enc k w0 blk off dj, w' = q.w := fun p => HC.out.at p HN.out _ _
          have HSD := aside hsd
          clear hsd
          obtain ⟨x, hx⟩ : ∃ x, dj[jp + 1]! = x := ⟨_, rfl⟩
          obtain ⟨y, hy⟩ : ∃ y, dj[jp]! = y := ⟨_, rfl⟩
          rw [hx] at lj hcg
          rw [hy] at lp hcg
          have HX := aside hx
          have HY := aside hy
          clear hx hy
          by_cases hlv : cf x y < 0
          · have HL : Aside (ltOf cf dj[jp + 1]! dj[jp]! = true) := by show _ = _; rw [HX.out, HY.out]; exact decide_eq_true hlv
            go_wp2_with fail
            haveI : Inhabited (SBW enc k w0 blk off dj) := ⟨⟨_, S1.out⟩⟩
            refine wp_region_sb S1.out (by assumption) (by kernel_rfl) ?_
            repeat (quiet_step ((go_at_fn g; exact hcg _)))
            refine wpQuiet_nil ?_
            intro _ hw'
            obtain ⟨p, rfl⟩ := hw'
            go_wp2_with fail
            have S2 : Aside (SB enc k w0 blk off (swp dj (jp + 1) jp) ((p.w.drew.setCells blk (off + (jp + 1) * k) (enc dj[jp]!)).setCells blk (off + jp * k) (enc dj[jp + 1]!))) := p.h.swapped RR.out (jp + 1) jp (by have := HN.out; omega) (by have := HN.out; omega)
            have la := p.h.ld1 RR.out HSD.out P (jp + 1) (by have := HN.out; omega)
            have lb := p.h.ld1 RR.out HSD.out P jp (by have := HN.out; omega)
            have sa := p.h.st1 RR.out HSD.out P (jp + 1) (by have := HN.out; omega) dj[jp]!
            have sb := p.h.st2 RR.out HSD.out P (jp + 1) jp (by have := HN.out; omega) (by have := HN.out; omega) dj[jp]! dj[jp + 1]!
            have na : (enc dj[jp + 1]!).length = k := RR.out.hk _
            have nb : (enc dj[jp]!).length = k := RR.out.hk _
            generalize enc dj[jp + 1]! = cI at S2 la sb na
            generalize enc dj[jp]! = cJ at S2 lb sa sb nb
            clear S1 lj lp hcg
            generalize p.w = wp at S2 la lb sa sb ⊢
            clear p
            go_big_region_o
            clear la lb sa sb
            generalize (wp.drew.setCells blk (off + (jp + 1) * k) cJ).setCells blk (off + jp * k) cI = w2 at S2 ⊢
            go_wp2
            go_roundg jp
            case measure => omega
            case rel => exact ⟨jp, swp dj (jp + 1) jp, by first | rfl | go_num | (congr 1; omega), by omega, by omega, Nat.le_refl _, (show _ = _ by rw [size_swp]; exact HN.out), S2, HI.out.step LA.out hja HL.out⟩
          · have HL : Aside (ltOf cf dj[jp + 1]! dj[jp]! = false) := by show _ = _; rw [HX.out, HY.out]; exact decide_eq_false hlv
            have hdn : decide (cf x y < 0) = false := decide_eq_false hlv
            go_wp2_with fail
            haveI : Inhabited (SBW enc k w0 blk off dj) := ⟨⟨_, S1.out⟩⟩
            refine wp_region_sb S1.out (by assumption) (by kernel_rfl) ?_
            repeat (quiet_step ((go_at_fn g; exact hcg _)))
            refine wpQuiet_nil ?_
            intro _ hw'
            obtain ⟨p, rfl⟩ := hw'
            go_wp2
            go_roundg (b - (i + 1))
            case measure => omega
            case rel => exact ⟨i + 1, dj, by go_num, by omega, by omega, by omega, HN, p.h, OUT.out (.inr (by simpa using HL.out))⟩
        · have hjaz : decide ((j : Int) > (a : Int)) = false := decide_eq_false (by omega)
          have hjaz' : ¬ (a : Int) < (j : Int) := by omega
          have S2 : Aside (SB enc k w0 blk off dj wr.drew) := S1.out.drew
          clear S1
          go_wp2_with fail
          go_big_region_o
          all_goals go_wp2
          go_roundg (b - (i + 1))
          case measure => omega
          case rel => exact ⟨i + 1, dj, by go_num, by omega, by omega, by omega, HN, S2, OUT.out (.inl (by omega))⟩
    · have hltz : ¬ (i : Int) < (b : Int) := by omega
      go_wp2
      go_end0
      exact ⟨rfl, dk, HT.out.done (by have := LB.out; omega), HN.out, S1.out⟩
variable {P : Program} {α : Type} [Inhabited α]
theorem stable_w (L : StLays P) (k : Nat) (aE : ∀ w, (isAgg 62).run P w = .ok true w) (zE : ∀ w, (Go.sizeOf 62).run P w = .ok k w) (enc : α → List Value) (cf : α → α → Int) (g : Nat) (cb : Array Value) (eg : ∀ args w, (callFunc g args).run P w = .ok (.enter g args) w)
    (blk off cap n : Nat) (d0 : Array α) (w0 : World)
    (R : RowK enc k w0 blk off d0) (hs : d0.size = n) (hC : CmpB P g cb enc k cf blk off n w0) (O : Stable.Ord (ltOf cf)) (hsz : n < 1152921504606846976) :
    Calls P 166 #[.slice (some ⟨blk, off, none⟩) n cap, .int .i64 n, .func (.func g) #[] cb] w0 fun e w' => e = .returned (.tuple #[]) ∧ ∃ d' : Array α, d'.toList = isort (ltOf cf) d0.toList ∧ d'.size = n ∧ SB enc k w0 blk off d' w' := by
  have mixed := L.mixed; have t3 := L.t3; have a3 := L.a3; have z3 := L.z3; have v3 := L.v3; have t4 := L.t4; have a4 := L.a4; have z4 := L.z4; have v4 := L.v4; have t22 := L.t22; have a22 := L.a22; have z22 := L.z22; have t45 := L.t45
  have FG := L.f30
  have e33 := L.e33
  have e34 := L.e34
  have hl : d0.toList.length = n := by rw [Array.length_toList]; exact hs
  have INS : Aside (∀ (a b : Nat) (d : Array α) (w : World) (pre seg post : List α), d.size = n → SB enc k w0 blk off d w → d.toList = pre ++ (seg ++ post) → pre.length = a → seg.length + a = b →
    Calls P 175 #[.slice (some ⟨blk, off, none⟩) n cap, .int .i64 a, .int .i64 b, .func (.func g) #[] cb] w fun e w' => e = .returned (.tuple #[]) ∧ ∃ d', d'.toList = pre ++ (isort (ltOf cf) seg ++ post) ∧ d'.size = n ∧ SB enc k w0 blk off d' w') :=
    fun a b d w pre seg post hn S T la lb => insertion_w L k aE zE enc cf g cb eg blk off cap a b n d0 d w0 w R hs hn hC O S (by omega) pre seg post T la lb
  have SYM : Aside (∀ (a m b : Nat) (d : Array α) (w : World) (pre U V post : List α), d.size = n → a < m → m < b → b ≤ n → SB enc k w0 blk off d w → Two (ltOf cf) a m b pre U V post d →
    Calls P 176 #[.slice (some ⟨blk, off, none⟩) n cap, .int .i64 a, .int .i64 m, .int .i64 b, .func (.func g) #[] cb] w fun e w' => e = .returned (.tuple #[]) ∧ ∃ d', d'.toList = pre ++ (merge (ltOf cf) U V ++ post) ∧ d'.size = n ∧ SB enc k w0 blk off d' w') :=
    fun a m b d w pre U V post hn h1 h2 h3 S T => by
      have := symMerge_w L k aE zE enc cf g cb eg blk off cap n d0 w0 R hs hC O (by omega) (b - a) a m b d w (Nat.le_refl _) hn h1 h2 h3 S pre U V post T
      rw [hn] at this
      exact this
  have S0 : Aside (SB enc k w0 blk off d0 w0) := SB.start R.hH
  have P0 : Aside (Pass0 (ltOf cf) 20 d0.toList 0 d0) := Pass0.start 20 d0
  have HO := aside O
  have HL := aside hl
  have HS0 := aside hs
  clear hC O R hs L hl eg
  go_enter FG, Tryz.ntmps166
  go_wp2_with fail
  go_loopg [7, 8] n (fun kx s7 s8 wr => ∃ (a : Nat) (d : Array α), s7 = .int .i64 a ∧ s8 = .int .i64 ((a + 20 : Nat) : Int) ∧ a ≤ n ∧ Aside (kx = n - a) ∧ Aside (d.size = n) ∧ Aside (SB enc k w0 blk off d wr) ∧ Aside (Pass0 (ltOf cf) 20 d0.toList a d))
  case atStart => exact ⟨0, d0, rfl, rfl, Nat.zero_le _, rfl, HS0, S0, P0⟩
  case round =>
    clear S0 P0 HS0
    obtain ⟨a, d, rfl, rfl, han, HK, HN, S1, HP⟩ := hrel
    by_cases hb : a + 20 ≤ n
    · obtain ⟨pre, seg, post, hd, hpre, hseg, hnext⟩ := HP.out.next (by rw [HL.out]; exact hb)
      have hc := INS.out a (a + 20) d wr pre seg post HN.out S1.out hd hpre (by omega)
      have HC2 := aside hc
      have HX := aside hnext
      clear hc hnext hd hseg hpre
      go_wp2_with (go_at_fn 175; refine HC2.out.mono ?_; rintro e1 w1 ⟨rfl, d1, hd1, hd2, hd3⟩)
      have Q1 := aside (HX.out d1 hd1)
      have Q2 := aside hd2
      have Q3 := aside hd3
      clear hd1 hd2 hd3
      go_roundg (n - (a + 20))
      case measure => have := HK.out; omega
      case rel => exact ⟨a + 20, d1, by go_num, by go_num, hb, rfl, Q2, Q3, Q1⟩
    · obtain ⟨pre, seg, hd, hpre, hseg, hnext⟩ := HP.out.last (by rw [HL.out]; exact hb)
      have hc := INS.out a n d wr pre seg [] HN.out S1.out hd hpre (by have := HL.out; omega)
      have HC2 := aside hc
      have HX := aside hnext
      clear hc hnext hd hseg hpre
      go_wp2_with (go_at_fn 175; refine HC2.out.mono ?_; rintro e1 w1 ⟨rfl, d1, hd1, hd2, hd3⟩)
      have Q1 : Aside (Blk (ltOf cf) 20 d0.toList d1.toList) := HX.out d1 hd1
      have Q2 := aside hd2
      have Q3 := aside hd3
      clear hd1 hd2 hd3 HX HC2 HP S1 HN HK
      go_loopg [6, 7, 8] (n - 20) (fun kx s6 s7 s8 wr2 => ∃ (s : Nat) (d : Array α), s6 = .int .i64 s ∧ 1 ≤ s ∧ s ≤ 2 * n + 20 ∧ Aside (kx = n - s) ∧ Aside (d.size = n) ∧ Aside (SB enc k w0 blk off d wr2) ∧ Aside (Blk (ltOf cf) s d0.toList d.toList))
      case atStart => exact ⟨20, d1, rfl, by omega, by omega, rfl, Q2, Q3, Q1⟩
      case round =>
        clear Q1 Q2 Q3
        obtain ⟨s, d, rfl, hs1, hs2, HK, HN, S1, HB⟩ := hrel
        by_cases hsn : s < n
        · have hsz' : (s : Int) < (n : Int) := by omega
          obtain ⟨wo, hwo⟩ : ∃ wo : World, wo = wr := ⟨_, rfl⟩
          subst hwo
          have P1 : Aside (Pass (ltOf cf) s d0.toList 0 d) := Pass.start HB.out
          go_wp2_with fail
          go_loopg [7, 8] n (fun kx s7 s8 wr2 => ∃ (a b : Nat) (d : Array α), s7 = .int .i64 a ∧ s8 = .int .i64 b ∧ a ≤ n ∧ b ≤ a + 2 * s ∧ a + 2 * s ≤ b ∧ Aside (kx = n - a) ∧ Aside (d.size = n) ∧ Aside (SB enc k w0 blk off d wr2) ∧ Aside (Pass (ltOf cf) s d0.toList a d))
          case atStart => exact ⟨0, 2 * s, d, rfl, by first | rfl | go_num | (congr 1; omega), Nat.zero_le _, by omega, by omega, rfl, HN, S1, P1⟩
          case round =>
            clear P1 HN S1 HB
            obtain ⟨a, b, d, rfl, rfl, han, hb1, hb2, HK2, HN, S1, HP⟩ := hrel
            obtain ⟨m, em, hm1, hm2⟩ : ∃ m : Nat, (a : Int) + (s : Int) = (m : Int) ∧ m ≤ a + s ∧ a + s ≤ m := ⟨a + s, by omega, by omega, by omega⟩
            obtain ⟨b2, eb2, hb3, hb4⟩ : ∃ b2 : Nat, (b : Int) + 2 * (s : Int) = (b2 : Int) ∧ b2 ≤ b + 2 * s ∧ b + 2 * s ≤ b2 := ⟨b + 2 * s, by omega, by omega, by omega⟩
            by_cases hb : b ≤ n
            · obtain ⟨pre, U, V, post, hT, hnext⟩ := HP.out.next HO.out (by rw [HL.out]; omega)
              rw [show a + s = m by omega, show a + 2 * s = b by omega] at hT
              rw [show a + 2 * s = b by omega] at hnext
              have hc := SYM.out a m b d wr pre U V post HN.out (by omega) (by omega) hb S1.out hT
              have HC2 := aside hc
              have HX := aside hnext
              clear hc hnext hT
              go_wp2_with (go_at_fn 176; refine HC2.out.mono ?_; rintro e1 w1 ⟨rfl, d1, hd1, hd2, hd3⟩)
              have Q1 := aside (HX.out d1 hd1)
              have Q2 := aside hd2
              have Q3 := aside hd3
              clear hd1 hd2 hd3
              go_roundg (n - b)
              case measure => have := HK2.out; omega
              case rel => exact ⟨b, b2, d1, rfl, rfl, hb, by omega, by omega, rfl, Q2, Q3, Q1⟩
            · by_cases hm : m < n
              · obtain ⟨pre, U, V, hT, hnext⟩ := HP.out.last HO.out (by rw [HL.out]; omega) (by rw [HL.out]; omega)
                rw [HL.out, show a + s = m by omega] at hT
                have hc := SYM.out a m n d wr pre U V [] HN.out (by omega) hm (Nat.le_refl _) S1.out hT
                have HC2 := aside hc
                have HX := aside hnext
                clear hc hnext hT
                go_wp2_with (go_at_fn 176; refine HC2.out.mono ?_; rintro e1 w1 ⟨rfl, d1, hd1, hd2, hd3⟩)
                have Q1 := aside (HX.out d1 hd1)
                have Q2 := aside hd2
                have Q3 := aside hd3
                clear hd1 hd2 hd3
                go_roundg (n - 2 * s)
                case measure => have := HK.out; omega
                case rel => exact ⟨2 * s, d1, by first | go_num | (congr 1; omega), by omega, by omega, rfl, Q2, Q3, Q1⟩
              · have Q1 := aside (HP.out.none (by rw [HL.out]; omega) (by rw [HL.out]; omega))
                go_wp2_with fail
                go_roundg (n - 2 * s)
                case measure => have := HK.out; omega
                case rel => exact ⟨2 * s, d, by first | go_num | (congr 1; omega), by omega, by omega, rfl, HN, S1, Q1⟩
        · go_wp2_with fail
          go_end0
          exact ⟨rfl, d, HB.out.whole (by rw [HL.out]; omega), HN.out, S1.out⟩
open Go.Proofs.YtcmiehddjgfjaaaGreatW.PrintWords Go.Proofs.YtcmiehddjgfjaaaGreatW.PrintLast Go.Proofs.YtcmiehddjgfjaaaGreatW.PrintMore
theorem lays : StLays Tryz.prog where
  mixed := by kernel_rfl
  f30 := Tryz.func166
  f33 := Tryz.func175
  f34 := Tryz.func176
  f36 := Tryz.func180
  f37 := Tryz.func183
  e33 := enters_of Tryz.func175 (by kernel_rfl) rfl
  e34 := enters_of Tryz.func176 (by kernel_rfl) rfl
  e36 := enters_of Tryz.func180 (by kernel_rfl) rfl
  e37 := enters_of Tryz.func183 (by kernel_rfl) rfl
  t3 := Tryz.underlying3
  a3 := Tryz.isAgg3
  z3 := Tryz.sizeOf3
  v3 := Tryz.zeroValue3
  t4 := Tryz.underlying4
  a4 := Tryz.isAgg4
  z4 := Tryz.sizeOf4
  v4 := Tryz.zeroValue4
  t53 := Tryz.underlying141
  a53 := Tryz.isAgg141
  z53 := Tryz.sizeOf141
  t22 := Tryz.underlying35
  a22 := Tryz.isAgg35
  z22 := Tryz.sizeOf35
  t45 := Tryz.underlying115
  a45 := Tryz.isAgg115
  z45 := Tryz.sizeOf115
theorem ins_none (A : Option Addr) (c g : Nat) (cb : Array Value) (w : World) :
    Calls Tryz.prog 175 #[.slice A 0 c, .int .i64 0, .int .i64 0, .func (.func g) #[] cb] w fun e w' => e = .returned (.tuple #[]) ∧ w' = w := by
  go_enter Tryz.func175, Tryz.ntmps175
  go_wp2_with fail
  go_loopg [8, 9] 0 (fun kq v8 v9 w' => v8 = .int .i64 1 ∧ w' = w)
  case atStart => exact ⟨rfl, rfl⟩
  case round =>
    obtain ⟨rfl, rfl⟩ := hrel
    go_wp2
    go_end0; exact ⟨rfl, rfl⟩
theorem stable_none (A : Option Addr) (c g : Nat) (cb : Array Value) (w : World) :
    Calls Tryz.prog 166 #[.slice A 0 c, .int .i64 0, .func (.func g) #[] cb] w fun e w' => e = .returned (.tuple #[]) ∧ w' = w := by
  go_enter Tryz.func166, Tryz.ntmps166
  go_wp2_with fail
  go_loopg [7, 8] 0 (fun kq v7 v8 w' => v7 = .int .i64 0 ∧ v8 = .int .i64 20 ∧ w' = w)
  case atStart => exact ⟨rfl, rfl, rfl⟩
  case round =>
    obtain ⟨rfl, rfl, rfl⟩ := hrel
    go_wp2_with fail
    refine (ins_none A c g cb wr).mono ?_
    rintro e w' ⟨rfl, rfl⟩
    go_wp2_with fail
    go_loopg [6, 7, 8, 9] 0 (fun kq v6 v7 v8 v9 w1 => v6 = .int .i64 20 ∧ w1 = w')
    case atStart => exact ⟨rfl, rfl⟩
    case round =>
      obtain ⟨rfl, rfl⟩ := hrel
      go_wp2
      go_end0; exact ⟨rfl, rfl⟩
/-- 'cmp' tells the order of two elements, in whatever world in which they can be read. -/
def CmpTells {α : Type} (d : Kd α) (g : Nat) (cb : Array Value) (cmp : α → α → Int) : Prop :=
  ∀ (W : World) (base : Nat) (ok : Nat → Prop) (x y : α) (cs ds : List Value), d.M W base ok x cs → d.M W base ok y ds →
    Calls Tryz.prog g (#[.agg cs.toArray, .agg ds.toArray] ++ cb) W fun e w' => e = .returned (.int .i64 (cmp x y)) ∧ Below W.heap.size W w'
theorem stable_R {α : Type} (d : Kd α) (hz : 0 < d.sz) (zE : ∀ w, (Go.sizeOf 62).run Tryz.prog w = .ok d.sz w) (cmp : α → α → Int) (g : Nat) (cb : Array Value) (eg : ∀ args w, (callFunc g args).run Tryz.prog w = .ok (.enter g args) w)
    (O : Stable.Ord (ltOf cmp)) (hcmp : CmpTells d g cb cmp) {w0 : World} {base : Nat} {ok : Nat → Prop} {v : Value} {xs : List α} (h : Kd.R d 62 w0 base ok v xs) (hl : xs.length < 1152921504606846976) :
    Calls Tryz.prog 166 #[v, .int .i64 xs.length, .func (.func g) #[] cb] w0 fun e w' => e = .returned (.tuple #[]) ∧ Kd.R d 62 w' base ok v (isort (ltOf cmp) xs) ∧ Below base w0 w' := by
  obtain ⟨A, c, rfl⟩ := Kd.R_slice h
  by_cases hx : xs = []
  · subst hx
    refine (stable_none A c g cb w0).mono ?_
    rintro e w' ⟨rfl, rfl⟩
    exact ⟨rfl, h, Below.refl _ _⟩
  · obtain ⟨ad, _, he⟩ := Kd.R_slice1 h (List.length_pos_iff.2 hx)
    injection he with he1 _ _
    subst he1
    obtain ⟨blk, rfl⟩ := Kd.R_head h
    obtain ⟨I, d0, hm, hs, hb, R⟩ := row_in h hx hz
    have hC : CmpB Tryz.prog g cb (elc (d := d) (w := w0) (base := base) (ok := ok) (g := blk)) d.sz (fun x y => cmp (elv x) (elv y)) blk 0 xs.length w0 := by
      intro dk W hdk hS x y
      exact hcmp W base _ _ _ _ _ (Kd.M_step x.2 (fun k hk hlt => hS.other hlt (fun e => hk.2 (by rw [e])))) (Kd.M_step y.2 (fun k hk hlt => hS.other hlt (fun e => hk.2 (by rw [e]))))
    have O' : Stable.Ord (ltOf (fun x y : El d w0 base ok blk => cmp (elv x) (elv y))) := ord_map elv O
    refine (stable_w lays d.sz Tryz.isAgg62 zE elc (fun x y => cmp (elv x) (elv y)) g cb eg blk 0 c xs.length d0 w0 R hs hC O' hl).mono ?_
    rintro e w' ⟨rfl, d', hd', hn, hS⟩
    obtain ⟨h1, h2⟩ := row_out h hx hn hS
    have e1 : d'.toList.map elv = isort (ltOf cmp) xs := by
      rw [hd', ← hm]
      exact isort_map elv (ltOf cmp) d0.toList
    rw [e1] at h1
    exact ⟨rfl, h1, h2 base hb⟩
/-- slices.SortStableFunc. -/
theorem sortStable_R {α : Type} (d : Kd α) (hz : 0 < d.sz) (zE : ∀ w, (Go.sizeOf 62).run Tryz.prog w = .ok d.sz w) (cmp : α → α → Int) (g : Nat) (cb : Array Value) (eg : ∀ args w, (callFunc g args).run Tryz.prog w = .ok (.enter g args) w)
    (O : Stable.Ord (ltOf cmp)) (hcmp : CmpTells d g cb cmp) {w0 : World} {base : Nat} {ok : Nat → Prop} {v : Value} {xs : List α} (h : Kd.R d 62 w0 base ok v xs) (hl : xs.length < 1152921504606846976) :
    Calls Tryz.prog 144 #[v, .func (.func g) #[] cb] w0 fun e w' => e = .returned (.tuple #[]) ∧ Kd.R d 62 w' base ok v (isort (ltOf cmp) xs) ∧ Below base w0 w' := by
  have hc := stable_R d hz zE cmp g cb eg O hcmp h hl
  obtain ⟨A, c, rfl⟩ := Kd.R_slice h
  have HC := aside hc
  clear hc h hcmp O eg zE
  go_enter Tryz.func144, Tryz.ntmps144
  go_wp2_with fail
  refine HC.out.mono ?_
  rintro e w' ⟨rfl, h1, h2⟩
  go_wp2
  go_end0
  exact ⟨rfl, h1, h2⟩
end Go.Proofs.YtcmiehddjgfjaaaGreat.St.GSl
namespace Go.Proofs.YtcmiehddjgfjaaaGreat.A
open Go.RowKit Go.Proofs.YtcmiehddjgfjaaaGreatW.PrintWords Go.Proofs.YtcmiehddjgfjaaaGreatW.PrintLast Go.Proofs.YtcmiehddjgfjaaaGreatW.PrintMore Go.Proofs.YtcmiehddjgfjaaaGreat.St Go.Proofs.YtcmiehddjgfjaaaGreat.Stable
def cmpN (x y : Lab) : Int := cmpS x.f0 y.f0
theorem cmpN3 : Cmp3 cmpN := cmpS3.map S62.f0
/-- labels.Make. -/
def vMake (l : List Lab) : List Lab × Int := if l.any (fun x => !isLab x) = true then ([], 90) else if adjEq cmpN (isort (ltOf cmpN) l) = true then ([], 8) else if 16 < l.length then ([], 6) else (isort (ltOf cmpN) l, 0)
theorem setGo_some : ∀ (l : List Lab) (q : ByteArray), setGo (some q) l = true ↔ (∀ x ∈ l, isLab x = true) ∧ Strict cmpN l ∧ (∀ x ∈ l, cmpS q x.f0 < 0)
  | [], q => by
    rw [setGo]
    exact ⟨fun _ => ⟨fun x h => (by cases h), List.Pairwise.nil, fun x h => (by cases h)⟩, fun _ => rfl⟩
  | x :: l, q => by
    rw [setGo, Bool.and_eq_true, Bool.and_eq_true, setGo_some l x.f0, less_cmpS, decide_eq_true_iff]
    constructor
    · rintro ⟨h1, h2, h3, h4, h5⟩
      refine ⟨fun y hy => ?_, List.pairwise_cons.2 ⟨fun y hy => h5 y hy, h4⟩, fun y hy => ?_⟩
      · rcases List.mem_cons.1 hy with rfl | hy
        · exact h1
        · exact h3 y hy
      · rcases List.mem_cons.1 hy with rfl | hy
        · exact h2
        · exact cmpS3.lt_tr h2 (by have := h5 y hy; omega)
    · rintro ⟨h1, h2, h3⟩
      obtain ⟨h4, h5⟩ := List.pairwise_cons.1 h2
      exact ⟨h1 x List.mem_cons_self, h3 x List.mem_cons_self, fun y hy => h1 y (List.mem_cons_of_mem _ hy), h5, fun y hy => h4 y hy⟩
theorem isSet_iff (l : List Lab) : isSet l = true ↔ (∀ x ∈ l, isLab x = true) ∧ Strict cmpN l ∧ l.length ≤ 16 := by
  unfold isSet
  rw [Bool.and_eq_true, decide_eq_true_iff]
  have : setGo none l = true ↔ (∀ x ∈ l, isLab x = true) ∧ Strict cmpN l := by
    cases l with
    | nil =>
      rw [setGo]
      exact ⟨fun _ => ⟨fun x h => (by cases h), List.Pairwise.nil⟩, fun _ => rfl⟩
    | cons x l =>
      rw [setGo, Bool.and_eq_true, setGo_some l x.f0]
      constructor
      · rintro ⟨h1, h3, h4, h5⟩
        refine ⟨fun y hy => ?_, List.pairwise_cons.2 ⟨fun y hy => h5 y hy, h4⟩⟩
        rcases List.mem_cons.1 hy with rfl | hy
        · exact h1
        · exact h3 y hy
      · rintro ⟨h1, h2⟩
        obtain ⟨h4, h5⟩ := List.pairwise_cons.1 h2
        exact ⟨h1 x List.mem_cons_self, fun y hy => h1 y (List.mem_cons_of_mem _ hy), h5, fun y hy => h4 y hy⟩
  rw [this]
  exact ⟨fun ⟨⟨a, b⟩, c⟩ => ⟨a, b, c⟩, fun ⟨a, b, c⟩ => ⟨⟨a, b⟩, c⟩⟩
theorem vMake_set {l : List Lab} (h : isSet l = true) : vMake l = (l, 0) := by
  obtain ⟨h1, h2, h3⟩ := (isSet_iff l).1 h
  have e := isort_id cmpN3 (h2.sorted cmpN3)
  unfold vMake
  rw [if_neg (by
    intro ha
    obtain ⟨x, hx, hb⟩ := List.any_eq_true.1 ha
    rw [h1 x hx] at hb
    cases hb), e, if_neg (by rw [adj_apart h2.apart]; simp), if_neg (by omega)]
/-- The code's 'isSet'. -/
theorem make_set (l : List Lab) : isSet l = true ↔ vMake l = (l, 0) := by
  refine ⟨vMake_set, fun h => ?_⟩
  unfold vMake at h
  split at h
  · injection h with _ h; cases h
  · rename_i h1
    split at h
    · injection h with _ h; cases h
    · rename_i h2
      split at h
      · injection h with _ h; cases h
      · rename_i h3
        injection h with h4 _
        refine (isSet_iff l).2 ⟨fun x hx => ?_, ?_, by omega⟩
        · cases hb : isLab x with
          | true => rfl
          | false => exact absurd (List.any_eq_true.2 ⟨x, hx, by rw [hb]; rfl⟩) h1
        · have hs := isort_sorted cmpN3.ord l
          rw [h4] at hs h2
          exact adj_sorted cmpN3 hs (by simpa using h2)
theorem lab_ext {x y : Lab} (h0 : x.f0 = y.f0) (h1 : x.f1 = y.f1) : x = y := by
  obtain ⟨a, b⟩ := x
  obtain ⟨c, d⟩ := y
  simp only at h0 h1
  subst h0; subst h1; rfl
theorem strict_names {l : List Lab} (h : Strict cmpN l) {x y : Lab} (hx : x ∈ l) (hy : y ∈ l) (hn : x.f0 = y.f0) : x = y := by
  induction l with
  | nil => cases hx
  | cons z l ih =>
    obtain ⟨h1, h2⟩ := List.pairwise_cons.1 h
    rcases List.mem_cons.1 hx with e | hx'
    · rcases List.mem_cons.1 hy with e' | hy'
      · rw [e, e']
      · have := h1 y hy'
        rw [← e, show cmpN x y = 0 from (cmpS_eq _ _).2 hn] at this
        omega
    · rcases List.mem_cons.1 hy with e' | hy'
      · have := h1 x hx'
        rw [← e', show cmpN y x = 0 from (cmpS_eq _ _).2 hn.symm] at this
        omega
      · exact ih h2 hx' hy'
theorem getL_mem {l : List Lab} : ∀ {n : ByteArray}, (∃ x ∈ l, x.f0 = n ∧ getL l n = x.f1) ∨ ((∀ x ∈ l, x.f0 ≠ n) ∧ getL l n = ⟨#[]⟩) := by
  induction l with
  | nil => intro n; exact .inr ⟨fun x h => (by cases h), rfl⟩
  | cons y l ih =>
    intro n
    rw [getL]
    by_cases h : y.f0.toList = n.toList
    · rw [if_pos h]
      exact .inl ⟨y, List.mem_cons_self, (toList_eq _ _).1 h, rfl⟩
    · rw [if_neg h]
      rcases ih (n := n) with ⟨x, hx, h1, h2⟩ | ⟨h1, h2⟩
      · exact .inl ⟨x, List.mem_cons_of_mem _ hx, h1, h2⟩
      · refine .inr ⟨fun x hx => ?_, h2⟩
        rcases List.mem_cons.1 hx with rfl | hx
        · exact fun e => h ((toList_eq _ _).2 e)
        · exact h1 x hx
theorem lab_some {x : Lab} (h : isLab x = true) : x.f1 ≠ ⟨#[]⟩ := by
  intro e
  unfold isLab at h
  rw [e] at h
  simp at h
  have := h.2.1
  exact absurd this (by decide)
/-- In a set: a label is there just if its name has its value. -/
theorem mem_get {l : List Lab} (hl : isSet l = true) {x : Lab} (hx : isLab x = true) : x ∈ l ↔ getL l x.f0 = x.f1 := by
  obtain ⟨h1, h2, h3⟩ := (isSet_iff l).1 hl
  rcases getL_mem (l := l) (n := x.f0) with ⟨y, hy, e1, e2⟩ | ⟨e1, e2⟩
  · rw [e2]
    constructor
    · intro h
      rw [strict_names h2 hy h e1]
    · intro h
      rw [← lab_ext e1 h]; exact hy
  · rw [e2]
    constructor
    · intro h; exact absurd rfl (e1 x h)
    · intro h; exact absurd h.symm (lab_some hx)
/-- The code's 'within'. -/
def Within (a b : List Lab) : Prop := ∀ x ∈ a, x ∈ b
/-- What labels.Join collects: those of b that are new in a; none where one is told otherwise. -/
def joinGo (a : List Lab) : List Lab → List Lab → Option (List Lab)
  | all, [] => some all
  | all, x :: b => if getL a x.f0 = ⟨#[]⟩ then joinGo a (all ++ [x]) b else if getL a x.f0 = x.f1 then joinGo a all b else none
def vJoinL (a b : List Lab) : List Lab × Bool := match joinGo a a b with
  | none => ([], false)
  | some all => ((vMake all).1, (vMake all).2 == 0)
theorem joinGo_within {a b : List Lab} (ha : isSet a = true) (hb : isSet b = true) (h : Within b a) : ∀ (c all : List Lab), (∀ x ∈ c, x ∈ b) → joinGo a all c = some all
  | [], all, _ => rfl
  | x :: c, all, hc => by
    have hx := hc x List.mem_cons_self
    have hl := (isSet_iff b).1 hb |>.1 x hx
    have e := (mem_get ha hl).1 (h x hx)
    rw [joinGo, if_neg (by rw [e]; exact lab_some hl), if_pos e]
    exact joinGo_within ha hb h c all (fun y hy => hc y (List.mem_cons_of_mem _ hy))
theorem join_in {a b : List Lab} (ha : isSet a = true) (hb : isSet b = true) (h : Within b a) : vJoinL a b = (a, true) := by
  unfold vJoinL
  rw [joinGo_within ha hb h b a (fun x hx => hx)]
  show ((vMake a).1, (vMake a).2 == 0) = (a, true)
  rw [vMake_set ha]; rfl
theorem joinGo_over {a b : List Lab} (ha : isSet a = true) (hb : isSet b = true) (h : Within a b) : ∀ (c all : List Lab), (∀ x ∈ c, x ∈ b) → joinGo a all c = some (all ++ c.filter (fun x => !a.any (fun y => decide (y.f0.toList = x.f0.toList))))
  | [], all, _ => by rw [joinGo, List.filter_nil, List.append_nil]
  | x :: c, all, hc => by
    have hx := hc x List.mem_cons_self
    have hl := (isSet_iff b).1 hb |>.1 x hx
    have ih := fun all => joinGo_over ha hb h c all (fun y hy => hc y (List.mem_cons_of_mem _ hy))
    rw [joinGo]
    rcases getL_mem (l := a) (n := x.f0) with ⟨y, hy, e1, e2⟩ | ⟨e1, e2⟩
    · have hyx : y = x := strict_names ((isSet_iff b).1 hb).2.1 (h y hy) hx e1
      subst hyx
      have hany : a.any (fun z => decide (z.f0.toList = y.f0.toList)) = true := List.any_eq_true.2 ⟨y, hy, by simp⟩
      rw [if_neg (by rw [e2]; exact lab_some hl), if_pos e2, ih, List.filter_cons_of_neg (by rw [hany]; simp)]
    · have hany : a.any (fun z => decide (z.f0.toList = x.f0.toList)) = false := by
        rw [List.any_eq_false]
        intro y hy
        rw [decide_eq_true_iff]
        exact fun e => e1 y hy ((toList_eq _ _).1 e)
      rw [if_pos e2, ih, List.filter_cons_of_pos (by rw [hany]; rfl), List.append_assoc]; rfl
theorem over_perm {a b : List Lab} (ha : isSet a = true) (hb : isSet b = true) (h : Within a b) : (a ++ b.filter (fun x => !a.any (fun y => decide (y.f0.toList = x.f0.toList)))).Perm b := by
  obtain ⟨a1, a2, a3⟩ := (isSet_iff a).1 ha
  obtain ⟨b1, b2, b3⟩ := (isSet_iff b).1 hb
  have nd : ∀ {l : List Lab}, Strict cmpN l → l.Nodup := fun hs => hs.imp (fun {x y} hxy e => by
    subst e
    have : cmpN x x = 0 := (cmpS_eq _ _).2 rfl
    omega)
  have key : ∀ x, x ∈ b.filter (fun x => !a.any (fun y => decide (y.f0.toList = x.f0.toList))) ↔ x ∈ b ∧ x ∉ a := by
    intro x
    rw [List.mem_filter]
    constructor
    · rintro ⟨hx, hn⟩
      refine ⟨hx, fun hxa => ?_⟩
      rw [List.any_eq_true.2 ⟨x, hxa, by simp⟩] at hn
      cases hn
    · rintro ⟨hx, hn⟩
      refine ⟨hx, ?_⟩
      rw [Bool.not_eq_true', List.any_eq_false]
      intro y hy
      rw [decide_eq_true_iff]
      intro e
      have := strict_names b2 (h y hy) hx ((toList_eq _ _).1 e)
      subst this
      exact hn hy
  refine (List.perm_ext_iff_of_nodup ?_ (nd b2)).2 (fun x => ?_)
  · refine List.nodup_append.2 ⟨nd a2, (nd b2).filter _, fun x hx y hy e => ?_⟩
    subst e
    exact ((key x).1 hy).2 hx
  · rw [List.mem_append, key]
    constructor
    · rintro (hx | ⟨hx, _⟩)
      · exact h x hx
      · exact hx
    · intro hx
      by_cases hxa : x ∈ a
      · exact .inl hxa
      · exact .inr ⟨hx, hxa⟩
theorem join_over {a b : List Lab} (ha : isSet a = true) (hb : isSet b = true) (h : Within a b) : vJoinL a b = (b, true) := by
  have p := over_perm ha hb h
  obtain ⟨b1, b2, b3⟩ := (isSet_iff b).1 hb
  unfold vJoinL
  rw [joinGo_over ha hb h b a (fun x hx => hx)]
  have e : vMake (a ++ b.filter (fun x => !a.any (fun y => decide (y.f0.toList = x.f0.toList)))) = (b, 0) := by
    unfold vMake
    have hap : Apart cmpN (a ++ b.filter (fun x => !a.any (fun y => decide (y.f0.toList = x.f0.toList)))) := Apart.perm cmpN3 p.symm b2.apart
    rw [if_neg (by
      intro hy
      obtain ⟨x, hx, hn⟩ := List.any_eq_true.1 hy
      rw [b1 x (p.mem_iff.1 hx)] at hn
      cases hn), if_neg (by rw [(adj_isort cmpN3 _).2 hap]; simp), if_neg (by rw [p.length_eq]; omega), isort_any_order cmpN3 p hap, isort_id cmpN3 (b2.sorted cmpN3)]
  simp only [e]
  rfl
/-- The longer one of two sets, of which one is within the other. -/
theorem join_longer {a b : List Lab} (ha : isSet a = true) (hb : isSet b = true) (h : Within a b ∨ Within b a) : vJoinL a b = (if a.length < b.length then b else a, true) := by
  rcases h with h | h
  · rw [join_over ha hb h]
    by_cases hl : a.length < b.length
    · rw [if_pos hl]
    · rw [if_neg hl]
      have p := over_perm ha hb h
      have hlen := p.length_eq
      rw [List.length_append] at hlen
      have hf : b.filter (fun x => !a.any (fun y => decide (y.f0.toList = x.f0.toList))) = [] := List.eq_nil_of_length_eq_zero (by omega)
      rw [hf, List.append_nil] at p
      rw [strict_eq cmpN3 ((isSet_iff a).1 ha).2.1 ((isSet_iff b).1 hb).2.1 p]
  · rw [join_in ha hb h]
    have hlen : ¬ a.length < b.length := by
      have p := (over_perm hb ha h).length_eq
      rw [List.length_append] at p
      omega
    rw [if_neg hlen]
theorem make1_calls (x : Lab) (hm : LabOk x) (w : World) : Calls Tryz.prog 142 #[.agg #[.string x.f0, .string x.f1]] w fun e w' => e = .returned (.bool (!isLab x)) ∧ Below w.heap.size w w' := by
  obtain ⟨k, hk⟩ := (badLab_ev x hm).rounds
  exact lb_Make_1.calls k _ _ _ w hk
theorem cmpN_tells : GSl.CmpTells k62 93 #[] cmpN := by
  intro W base ok x y cs ds hx hy
  obtain rfl := k62_openM hx
  obtain rfl := k62_openM hy
  exact byName_calls x y W
theorem adj_step (s : List Lab) (i : Nat) (h1 : 1 ≤ i) (hi : i < s.length) : adjEq cmpN (s.drop (i - 1)) = (decide ((s[i - 1]'(by omega)).f0 = s[i].f0) || adjEq cmpN (s.drop i)) := by
  obtain ⟨j, rfl⟩ : ∃ j, i = j + 1 := ⟨i - 1, by omega⟩
  simp only [Nat.add_sub_cancel]
  rw [List.drop_eq_getElem_cons (show j < s.length by omega), List.drop_eq_getElem_cons hi, adjEq]
  congr 1
  exact decide_eq_decide.2 (cmpS_eq _ _)
theorem adj_short : ∀ {s : List Lab}, s.length ≤ 1 → adjEq cmpN s = false
  | [], _ => rfl
  | [x], _ => rfl
  | x :: y :: s, h => by simp at h
theorem lmake_calls (A : Option Addr) (c : Nat) (l : List Lab) (hl : LabsOk l) (hb : l.length * 32 ≤ 140737488355328) (w : World) (hr : Kd.C k62 w A l.length l) :
    Calls Tryz.prog 86 #[.slice A l.length c] w fun e w' => ∃ v : Value, e = .returned (.tuple #[v, .int .i64 (vMake l).2]) ∧ Kd.R k62 62 w' w.heap.size (fun _ => True) v (vMake l).1 ∧ Below w.heap.size w w' := by
  have eg : ∀ args w, (callFunc 142 args).run Tryz.prog w = .ok (.enter 142 args) w := enters_of Tryz.func142 (by kernel_rfl) rfl
  have hc := containsLabel (fun x => !isLab x) 142 #[] eg A c l w hr (fun x hx w1 cs _ hK => by
    obtain rfl := k62_open hK
    exact make1_calls x (hl.2 x hx) w1)
  have hv : vMake l = if l.any (fun x => !isLab x) = true then ([], 90) else if adjEq cmpN (isort (ltOf cmpN) l) = true then ([], 8) else if 16 < (isort (ltOf cmpN) l).length then ([], 6) else (isort (ltOf cmpN) l, 0) := by unfold vMake; rw [isort_length]
  rw [hv]
  clear hv eg
  generalize l.any (fun x => !isLab x) = bad at hc ⊢
  generalize hs : isort (ltOf cmpN) l = s
  generalize hrr : (if bad = true then (([] : List Lab), (90 : Int)) else if adjEq cmpN s = true then ([], 8) else if 16 < s.length then ([], 6) else (s, 0)) = r
  have HRR := Sd.mk hrr
  have HN := Sd.mk (show s.length = l.length by rw [← hs]; exact isort_length l)
  have HS := Sd.mk hs
  clear hrr hs
  have HC := Sd.mk hc
  have HR := Sd.mk hr
  have HL := Sd.mk hb
  have HM := Sd.mk hl
  clear hc hr hb hl
  cases bad with
  | true =>
    go_enter Tryz.func86, Tryz.ntmps86
    go_wp2_with (go_at_call 102; refine HC.out.mono ?_; rintro e w1 ⟨rfl, hb1⟩)
    go_ret2
    have er : r = ([], 90) := by rw [← HRR.out]; simp
    exact ⟨.slice none 0 0, by rw [er]; rfl, by rw [er]; exact Kd.R_nil _ _ _ _ _, hb1⟩
  | false =>
    have mixed : Tryz.prog.follows .mixedOrders = true := by kernel_rfl
    go_enter Tryz.func86, Tryz.ntmps86
    go_wp2_with (first
      | (go_at_call 102; refine HC.out.mono ?_; rintro e w1 ⟨rfl, hb1⟩; have HB := Sd.mk hb1; clear hb1)
      | (go_at_call 105; refine (cloneLabel A c l _ (Kd.C_below HR.out HB.out) HL.out).mono ?_; rintro e w2 ⟨v, rfl, hv, hb2⟩; have HV := Sd.mk (Kd.R_lower hv HB.out.size); have HB2 := Sd.mk (HB.out.trans (hb2.mono HB.out.size)); clear hv hb2))
    refine (GSl.sortStable_R k62 (by decide) Tryz.sizeOf62 cmpN 93 #[] (enters_of Tryz.func93 (by kernel_rfl) rfl) cmpN3.ord cmpN_tells HV.out (by have := HL.out; omega)).mono ?_
    rintro e w3 ⟨rfl, hv3, hb3⟩
    rw [HS.out] at hv3
    have HV3 := Sd.mk hv3
    have HB3 := Sd.mk (HB2.out.trans hb3)
    clear hv3 hb3
    go_wp2
    obtain ⟨A3, c3, rfl, hc3, hC3⟩ := Kd.R_reads HV3.out
    clear hC3
    have hn := HM.out.1
    have hn2 : s.length < 4611686018427387904 := by rw [HN.out]; exact hn
    clear hn
    go_loopw [4] (fun v4 wr => ∃ i : Nat, 1 ≤ i ∧ (i ≤ s.length ∨ i = 1) ∧ v4 = .int .i64 i ∧ Sd (adjEq cmpN s = adjEq cmpN (s.drop (i - 1))) ∧ Sd (Kd.R k62 62 wr w.heap.size (fun _ => True) (.slice A3 s.length c3) s) ∧ Sd (Below w.heap.size w wr)) (fun v4 _ => s.length + 1 - (intOf v4).toNat)
    case atStart => exact ⟨1, Nat.le_refl _, .inr rfl, rfl, ⟨rfl⟩, HV3, HB3⟩
    case round =>
      clear HV3 HB3 HB HB2 HV HC
      obtain ⟨i, h1, hi, rfl, HT, HO, HW⟩ := hrel
      by_cases hlt : i < s.length
      · have hlt' : (i : Int) < (s.length : Int) := by omega
        obtain ⟨j, hj⟩ : ∃ j, i - 1 = j := ⟨_, rfl⟩
        have hjl : j < s.length := by omega
        have bj : (j : Int) < (s.length : Int) := by omega
        have hwp : IntKind.i64.wrap ((i : Int) - 1) = (j : Int) := by rw [IntKind.wrap_i64]; omega
        have hC := (Kd.R_reads' HO.out).2.2
        obtain ⟨ad, rfl, p0, p1⟩ := at_T62 hC (i : Int) (by omega) (by omega)
        obtain ⟨ad2, e2, r0, r1⟩ := at_T62 hC (j : Int) (by omega) (by omega)
        injection e2 with e2
        subst e2
        rw [Int.toNat_natCast, rdL_at hlt] at p0
        rw [Int.toNat_natCast, rdL_at hjl] at r0
        have hst := adj_step s i h1 hlt
        simp only [hj] at hst
        have HX := Sd.mk (show adjEq cmpN s = (decide (s[j].f0 = s[i].f0) || adjEq cmpN (s.drop i)) by rw [HT.out, hj, hst])
        clear hst hC p1 r1 HT
        have HJ := Sd.mk hj
        clear hj
        generalize s[i].f0 = x at p0 HX
        generalize s[j].f0 = y at r0 HX
        have q0 := fun p : Bw wr => p.cell p0
        have t0 := fun p : Bw wr => p.cell r0
        clear p0 r0
        by_cases he : y = x
        · subst he
          have HZ := Sd.mk (show adjEq cmpN s = true by rw [HX.out, decide_eq_true rfl, Bool.true_or])
          go_wp2_with fail
          refine wp_region_Bw (by assumption) (by kernel_rfl) ?_
          repeat ((with_reducible refine wpQuiet_step (fun K hK => ?_)); go_simp; first | ((with_reducible refine hK _ ?_); clear hK K) | (rw [if_neg (by decide)]; (with_reducible refine hK _ ?_); clear hK K))
          refine wpQuiet_nil ?_
          intro _ hw'
          obtain ⟨p, rfl⟩ := hw'
          have HB2 := Sd.mk (HW.out.trans (p.h.mono HW.out.size))
          go_wp2
          go_ret2
          have er : r = ([], 8) := by rw [← HRR.out]; simp [HZ.out]
          exact ⟨.slice none 0 0, by rw [er]; rfl, by rw [er]; exact Kd.R_nil _ _ _ _ _, HB2.out⟩
        · have HZ := Sd.mk (show adjEq cmpN s = adjEq cmpN (s.drop (i + 1 - 1)) by rw [HX.out, decide_eq_false he, Bool.false_or, Nat.add_sub_cancel])
          have n2 : (x.toList == y.toList) = false := by rw [beq_eq_false_iff_ne]; exact fun h => he ((toList_eq _ _).1 h).symm
          have n3 : ¬ x.toList = y.toList := fun h => he ((toList_eq _ _).1 h).symm
          have n4 : ¬ x = y := fun h => he h.symm
          clear he HX
          go_wp2_with fail
          refine wp_region_Bw (by assumption) (by kernel_rfl) ?_
          repeat ((with_reducible refine wpQuiet_step (fun K hK => ?_)); go_simp; first | ((with_reducible refine hK _ ?_); clear hK K) | (rw [if_neg (by decide)]; (with_reducible refine hK _ ?_); clear hK K))
          refine wpQuiet_nil ?_
          intro _ hw'
          obtain ⟨p, rfl⟩ := hw'
          have HB2 := Sd.mk (HW.out.trans (p.h.mono HW.out.size))
          have HO2 := Sd.mk (Kd.R_below HO.out p.h)
          go_wp2
          go_roundw
          case rel => exact ⟨i + 1, by omega, .inl (by omega), by go_num, HZ, HO2, HB2⟩
          case measure => simp [intOf]; omega
      · have n1 : decide ((i : Int) < (s.length : Int)) = false := decide_eq_false (by omega)
        have n2 : decide (i < s.length) = false := decide_eq_false hlt
        have HZ := Sd.mk (HT.out.trans (adj_short (by rw [List.length_drop]; omega)))
        clear hi hlt h1
        by_cases h16 : 16 < s.length
        · have er0 : r = ([], 6) := by rw [← HRR.out]; simp [HZ.out, h16]
          have ER := Sd.mk er0
          clear er0
          have b1 : decide ((s.length : Int) > 16) = true := decide_eq_true (by omega)
          have b2 : decide (16 < s.length) = true := decide_eq_true h16
          clear h16
          go_wp2
          go_ret2
          have er := ER.out
          exact ⟨.slice none 0 0, by rw [er]; rfl, by rw [er]; exact Kd.R_nil _ _ _ _ _, HW.out⟩
        · have er0 : r = (s, 0) := by rw [← HRR.out]; simp [HZ.out, h16]
          have ER := Sd.mk er0
          clear er0
          have b1 : decide ((s.length : Int) > 16) = false := decide_eq_false (by omega)
          have b2 : decide (16 < s.length) = false := decide_eq_false h16
          clear h16
          go_wp2
          go_ret2
          have er := ER.out
          exact ⟨.slice A3 s.length c3, by rw [er]; rfl, by rw [er]; exact HO.out, HW.out⟩
attribute [local go_sem high] eqA62
def eqL (a b : List Lab) : Bool := decide (cmpL a b = 0)
theorem eqL_cons (x y : Lab) (a b : List Lab) : eqL (x :: a) (y :: b) = (decide (cmpLab x y = 0) && eqL a b) := by
  unfold eqL
  rw [cmpL]
  by_cases h : cmpLab x y = 0
  · rw [if_pos h, decide_eq_true h, Bool.true_and]
  · rw [if_neg h, decide_eq_false h, Bool.false_and]
theorem eqL_len {a b : List Lab} (h : a.length ≠ b.length) : eqL a b = false := by
  unfold eqL
  exact decide_eq_false (fun e => h (by rw [cmpL_eq.1 e]))
theorem lab_ne {x y : Lab} (h : ¬ cmpLab x y = 0) : (x.f0.toList == y.f0.toList && (x.f1.toList == y.f1.toList)) = false := by
  by_cases h0 : x.f0 = y.f0
  · by_cases h1 : x.f1 = y.f1
    · exact absurd (cmpLab_eq.2 (lab_ext h0 h1)) h
    · have : ¬ x.f1.toList = y.f1.toList := fun e => h1 ((toList_eq _ _).1 e)
      simp [this]
  · have : ¬ x.f0.toList = y.f0.toList := fun e => h0 ((toList_eq _ _).1 e)
    simp [this]
theorem equalL_calls (A B : Option Addr) (c d : Nat) (a b : List Lab) (w : World) (ha : Kd.C k62 w A a.length a) (hb : Kd.C k62 w B b.length b) :
    Calls Tryz.prog 87 #[.slice A a.length c, .slice B b.length d] w fun e w' => e = .returned (.bool (eqL a b)) ∧ Below w.heap.size w w' := by
  have hma : a.length ≤ 9223372036854775807 := Kd.C_max ha
  have HA := Sd.mk ha
  have HB := Sd.mk hb
  clear ha hb
  have mixed : Tryz.prog.follows .mixedOrders = true := by kernel_rfl
  by_cases hl : a.length = b.length
  · have HL := Sd.mk hl
    have n0 : ((a.length : Int) != (b.length : Int)) = false := by simp [hl]
    have n1 : (a.length != b.length) = false := by simp [hl]
    clear hl
    go_enter Tryz.func87, Tryz.ntmps87
    go_wp2
    go_loopw [4, 5, 13] (fun v4 _ v13 wr => ∃ i : Nat, i ≤ a.length ∧ v4 = .bool false ∧ v13 = .int .i64 i ∧ Sd (eqL a b = eqL (a.drop i) (b.drop i)) ∧ Sd (Below w.heap.size w wr)) (fun _ _ v13 _ => a.length - (intOf v13).toNat)
    case atStart => exact ⟨0, Nat.zero_le _, rfl, rfl, ⟨rfl⟩, ⟨Below.refl _ _⟩⟩
    case round =>
      obtain ⟨i, hi, rfl, rfl, HT, HW⟩ := hrel
      by_cases hlt : i < a.length
      · have hj : i < b.length := by rw [← HL.out]; exact hlt
        have b1 : (i : Int) < (a.length : Int) := by omega
        have b2 : (i : Int) < (b.length : Int) := by omega
        obtain ⟨ad, rfl, p0, p1⟩ := at_T62 (Kd.C_below HA.out HW.out) (i : Int) (by omega) (by omega)
        obtain ⟨ad2, rfl, r0, r1⟩ := at_T62 (Kd.C_below HB.out HW.out) (i : Int) (by omega) (by omega)
        rw [Int.toNat_natCast, rdL_at hlt] at p0 p1
        rw [Int.toNat_natCast, rdL_at hj] at r0 r1
        have HX := Sd.mk (show eqL a b = (decide (cmpLab a[i] b[i] = 0) && eqL (a.drop (i + 1)) (b.drop (i + 1))) by rw [HT.out, List.drop_eq_getElem_cons hlt, List.drop_eq_getElem_cons hj, eqL_cons])
        generalize a[i] = x at p0 p1 HX
        generalize b[i] = y at r0 r1 HX
        have q0 := fun p : Bw wr => p.cell p0
        have q1 := fun p : Bw wr => p.cell p1
        have s0 := fun p : Bw wr => p.cell r0
        have s1 := fun p : Bw wr => p.cell r1
        clear p0 p1 r0 r1 HT
        by_cases he : cmpLab x y = 0
        · have HZ := Sd.mk (show eqL a b = eqL (a.drop (i + 1)) (b.drop (i + 1)) by rw [HX.out, decide_eq_true he, Bool.true_and])
          obtain rfl := cmpLab_eq.1 he
          clear he HX
          go_wp2_with fail
          refine wp_region_Bw (by assumption) (by kernel_rfl) ?_
          repeat ((with_reducible refine wpQuiet_step (fun K hK => ?_)); go_simp; first | ((with_reducible refine hK _ ?_); clear hK K) | (rw [if_neg (by decide)]; (with_reducible refine hK _ ?_); clear hK K))
          refine wpQuiet_nil ?_
          intro _ hw'
          obtain ⟨p, rfl⟩ := hw'
          have HB2 := Sd.mk (HW.out.trans (p.h.mono HW.out.size))
          go_wp2
          go_roundw
          case rel => exact ⟨i + 1, by omega, rfl, by go_num, HZ, HB2⟩
          case measure => simp [intOf]; omega
        · have HZ := Sd.mk (show eqL a b = false by rw [HX.out, decide_eq_false he, Bool.false_and])
          have ne := lab_ne he
          clear he HX
          go_wp2_with fail
          refine wp_region_Bw (by assumption) (by kernel_rfl) ?_
          repeat ((with_reducible refine wpQuiet_step (fun K hK => ?_)); go_simp; first | ((with_reducible refine hK _ ?_); clear hK K) | (rw [if_neg (by decide)]; (with_reducible refine hK _ ?_); clear hK K))
          refine wpQuiet_nil ?_
          intro _ hw'
          obtain ⟨p, rfl⟩ := hw'
          have HB2 := Sd.mk (HW.out.trans (p.h.mono HW.out.size))
          go_wp2
          go_ret
          exact ⟨by rw [HZ.out]; rfl, HB2.out⟩
      · have m1 : decide ((i : Int) < (a.length : Int)) = false := decide_eq_false (by omega)
        have m2 : decide (i < a.length) = false := decide_eq_false hlt
        have HZ := Sd.mk (show eqL a b = true by rw [HT.out, List.drop_of_length_le (by omega), List.drop_of_length_le (by rw [← HL.out]; omega)]; rfl)
        go_wp2
        go_ret
        exact ⟨by rw [HZ.out]; rfl, HW.out⟩
  · have HZ := Sd.mk (eqL_len hl)
    have n0 : ((a.length : Int) != (b.length : Int)) = true := by simp; omega
    have n1 : (a.length != b.length) = true := by simpa using hl
    clear hl
    go_enter Tryz.func87, Tryz.ntmps87
    go_wp2
    go_ret
    exact ⟨by rw [HZ.out]; rfl, Below.refl _ _⟩
theorem isSet_at (l : List Lab) (h : (vMake l).2 = 0) : isSet l = eqL (vMake l).1 l := by
  have : isSet l = true ↔ eqL (vMake l).1 l = true := by
    rw [make_set]
    unfold eqL
    rw [decide_eq_true_iff, cmpL_eq]
    constructor
    · intro e; rw [e]
    · intro e; exact Prod.ext e h
  cases h1 : isSet l <;> cases h2 : eqL (vMake l).1 l <;> simp_all
theorem isSet_calls (A : Option Addr) (c : Nat) (l : List Lab) (hl : LabsOk l) (hb : l.length * 32 ≤ 140737488355328) (w : World) (hr : Kd.C k62 w A l.length l) :
    Calls Tryz.prog 52 #[.slice A l.length c] w fun e w' => e = .returned (.bool (isSet l)) ∧ Below w.heap.size w w' := by
  have HM := Sd.mk (lmake_calls A c l hl hb w hr)
  have HR := Sd.mk hr
  have hset : (vMake l).2 ≠ 0 → isSet l = false := fun h => by
    cases h1 : isSet l with
    | false => rfl
    | true => exact absurd (by rw [(make_set l).1 h1]) h
  have hat := isSet_at l
  generalize vMake l = r at HM hset hat
  obtain ⟨s, n⟩ := r
  simp only at HM hset hat
  clear hr hl hb
  by_cases h0 : n = 0
  · subst h0
    have HZ := Sd.mk (hat rfl)
    clear hat hset
    go_enter Tryz.func52, Tryz.ntmps52
    go_wp2_with fail
    refine HM.out.mono ?_
    rintro e w1 ⟨v, rfl, hv, hb1⟩
    obtain ⟨A2, c2, rfl, _, hC⟩ := Kd.R_reads hv
    have HE := Sd.mk (equalL_calls A2 A c2 c s l w1 hC (Kd.C_below HR.out hb1))
    have HB := Sd.mk hb1
    clear hv hb1 hC
    go_wp2_with (go_at_call 87; refine HE.out.mono ?_; rintro e w2 ⟨rfl, hb2⟩; have HB2 := Sd.mk (HB.out.trans (hb2.mono HB.out.size)); clear hb2)
    go_ret
    exact ⟨by rw [HZ.out]; simp, HB2.out⟩
  · have HZ := Sd.mk (hset h0)
    have n0 : (n == 0) = false := by simpa using h0
    clear hat hset h0
    go_enter Tryz.func52, Tryz.ntmps52
    go_wp2_with fail
    refine HM.out.mono ?_
    rintro e w1 ⟨v, rfl, hv, hb1⟩
    have HB := Sd.mk hb1
    clear hv hb1
    go_wp2
    go_ret
    exact ⟨by rw [HZ.out]; rfl, HB.out⟩
def badVal (x : Ser) : Bool := !decide (isV (x.f1.f0, x.f1.f1))
/-- The frame of series. -/
def vSort (l : List Ser) : List Ser × Int := if l.any (fun x => !isSet x.f0) = true then ([], 90) else if l.any badVal = true then ([], 80) else if adjEq cmpSer (isort (ltOf cmpSer) l) = true then ([], 8) else if 200 < (isort (ltOf cmpSer) l).length then ([], 6) else (isort (ltOf cmpSer) l, 0)
def SerOk (x : Ser) : Prop := x.f0.length < 4398046511104 ∧ LabsOk x.f0
theorem sort1_calls (x : Ser) (cs : List Value) (hx : SerOk x) (W : World) (hK : k37.K W x cs) : Calls Tryz.prog 51 #[.agg cs.toArray] W fun e w' => e = .returned (.bool (!isSet x.f0)) ∧ Below W.heap.size W w' := by
  obtain ⟨A0, c0, rfl, _, hA⟩ := k37_open hK
  have hb := below1 W (.cells #[.slice A0 x.f0.length c0, .int .i64 x.f1.f0, .int .i64 x.f1.f1] 37)
  have HC := Sd.mk (isSet_calls A0 c0 x.f0 hx.2 (by have := hx.1; omega) _ (Kd.C_below hA hb))
  have HB := Sd.mk hb
  generalize isSet x.f0 = r at HC ⊢
  clear hx hK hA hb
  go_enter Tryz.func51, Tryz.ntmps51
  go_wp2_with (go_at_call 52; refine HC.out.mono ?_; rintro e w1 ⟨rfl, hb1⟩; have HE := Sd.mk (HB.out.trans (hb1.mono HB.out.size)); clear hb1)
  go_ret
  exact ⟨by first | rfl | simp, HE.out⟩
theorem sort2_calls (x : Ser) (cs : List Value) (W : World) (hK : k37.K W x cs) : Calls Tryz.prog 53 #[.agg cs.toArray] W fun e w' => e = .returned (.bool (badVal x)) ∧ Below W.heap.size W w' := by
  obtain ⟨A0, c0, rfl, _, hA⟩ := k37_open hK
  have hb := below1 W (.cells #[.slice A0 x.f0.length c0, .int .i64 x.f1.f0, .int .i64 x.f1.f1] 37)
  have HC := Sd.mk (check1_fresh x.f1.f0 x.f1.f1 (W.alloc (.cells #[.slice A0 x.f0.length c0, .int .i64 x.f1.f0, .int .i64 x.f1.f1] 37)))
  have HB := Sd.mk hb
  simp only [World.size_alloc] at HC
  unfold badVal
  clear hK hA hb
  by_cases h : isV (x.f1.f0, x.f1.f1)
  · rw [if_pos h] at HC
    rw [decide_eq_true h]
    clear h
    go_enter Tryz.func53, Tryz.ntmps53
    go_wp2_with (go_at_call 33; refine HC.out.mono ?_; rintro e w1 ⟨rfl, hb1⟩; have HE := Sd.mk (HB.out.trans (hb1.mono (by omega))); clear hb1)
    go_ret
    exact ⟨rfl, HE.out⟩
  · rw [if_neg h] at HC
    rw [decide_eq_false h]
    clear h
    go_enter Tryz.func53, Tryz.ntmps53
    go_wp2_with (go_at_call 33; refine HC.out.mono ?_; rintro e w1 ⟨rfl, hb1⟩; have HE := Sd.mk (HB.out.trans (hb1.mono (by omega))); clear hb1)
    go_ret
    exact ⟨rfl, HE.out⟩
theorem adjS_step (s : List Ser) (i : Nat) (h1 : 1 ≤ i) (hi : i < s.length) : adjEq cmpSer (s.drop (i - 1)) = (decide (cmpL (s[i - 1]'(by omega)).f0 s[i].f0 = 0) || adjEq cmpSer (s.drop i)) := by
  obtain ⟨j, rfl⟩ : ∃ j, i = j + 1 := ⟨i - 1, by omega⟩
  simp only [Nat.add_sub_cancel]
  rw [List.drop_eq_getElem_cons (show j < s.length by omega), List.drop_eq_getElem_cons hi, adjEq]
  rfl
theorem adjS_short : ∀ {s : List Ser}, s.length ≤ 1 → adjEq cmpSer s = false
  | [], _ => rfl
  | [x], _ => rfl
  | x :: y :: s, h => by simp at h
theorem ssort_calls (A : Option Addr) (c : Nat) (l : List Ser) (hl : SersOk l) (w : World) (hr : Kd.C k37 w A l.length l) :
    Calls Tryz.prog 14 #[.slice A l.length c] w fun e w' => ∃ v : Value, e = .returned (.tuple #[v, .int .i64 (vSort l).2]) ∧ Kd.N k37 37 w' w.heap.size (fun _ => True) v (vSort l).1 ∧ Below w.heap.size w w' := by
  have eg1 : ∀ args w, (callFunc 51 args).run Tryz.prog w = .ok (.enter 51 args) w := enters_of Tryz.func51 (by kernel_rfl) rfl
  have eg2 : ∀ args w, (callFunc 53 args).run Tryz.prog w = .ok (.enter 53 args) w := enters_of Tryz.func53 (by kernel_rfl) rfl
  have eg3 : ∀ args w, (callFunc 56 args).run Tryz.prog w = .ok (.enter 56 args) w := enters_of Tryz.func56 (by kernel_rfl) rfl
  have hc1 := containsSeries (fun x => !isSet x.f0) 51 #[] eg1 A c l w hr (fun x hx w1 cs _ hK => sort1_calls x cs (hl.2 x hx) w1 hK)
  have hc2 : ∀ w1, Below w.heap.size w w1 → _ := fun w1 hb => containsSeries badVal 53 #[] eg2 A c l w1 (Kd.C_below hr hb) (fun x hx w1 cs _ hK => sort2_calls x cs w1 hK)
  unfold vSort
  generalize l.any (fun x => !isSet x.f0) = bad1 at hc1 ⊢
  generalize l.any badVal = bad2 at hc2 ⊢
  generalize hs : isort (ltOf cmpSer) l = s
  generalize hrr : (if bad1 = true then (([] : List Ser), (90 : Int)) else if bad2 = true then ([], 80) else if adjEq cmpSer s = true then ([], 8) else if 200 < s.length then ([], 6) else (s, 0)) = r
  have HRR := Sd.mk hrr
  have HN := Sd.mk (show s.length = l.length by rw [← hs]; exact isort_length l)
  have HS := Sd.mk hs
  clear hrr hs
  have HC1 := Sd.mk hc1
  have HC2 := Sd.mk hc2
  have HR := Sd.mk hr
  have HL := Sd.mk hl
  have HE3 := Sd.mk eg3
  clear hc1 hc2 hr hl eg1 eg2 eg3
  have mixed : Tryz.prog.follows .mixedOrders = true := by kernel_rfl
  cases bad1 with
  | true =>
    go_enter Tryz.func14, Tryz.ntmps14
    go_wp2_with (go_at_call 50; refine HC1.out.mono ?_; rintro e w1 ⟨rfl, hb1⟩)
    go_ret2
    have er : r = ([], 90) := by rw [← HRR.out]; simp
    exact ⟨.slice none 0 0, by rw [er]; rfl, by rw [er]; exact Kd.N_nil _ _ _ _ _, hb1⟩
  | false =>
  cases bad2 with
  | true =>
    go_enter Tryz.func14, Tryz.ntmps14
    go_wp2_with fail
    refine HC1.out.mono ?_
    rintro e w1 ⟨rfl, hb1⟩
    have HB := Sd.mk hb1
    have HC := Sd.mk (HC2.out w1 hb1)
    clear hb1
    go_wp2_with (go_at_call 50; refine HC.out.mono ?_; rintro e w2 ⟨rfl, hb2⟩)
    go_ret2
    have er : r = ([], 80) := by rw [← HRR.out]; simp
    exact ⟨.slice none 0 0, by rw [er]; rfl, by rw [er]; exact Kd.N_nil _ _ _ _ _, HB.out.trans (hb2.mono HB.out.size)⟩
  | false =>
    go_enter Tryz.func14, Tryz.ntmps14
    go_wp2_with fail
    refine HC1.out.mono ?_
    rintro e w1 ⟨rfl, hb1⟩
    have HB := Sd.mk hb1
    have HC := Sd.mk (HC2.out w1 hb1)
    clear hb1
    go_wp2_with fail
    refine HC.out.mono ?_
    rintro e w2 ⟨rfl, hb2⟩
    have HB2 := Sd.mk (HB.out.trans (hb2.mono HB.out.size))
    clear hb2 HC HB
    go_wp2_with fail
    refine (values_calls _ _ _ _).mono ?_
    rintro e w3 ⟨rfl, rfl⟩
    have HB3 := Sd.mk (HB2.out.trans ((below1 w2 (.cells #[.slice A l.length c] 33)).mono HB2.out.size))
    have HSo := Sd.mk (sortedN_calls 56 HE3.out cmpSer cmpSer3 w2.heap.size A c l (by have := HL.out.1; omega) _ (sort3_calls _) (by simp) ((blk_cell (blk_new w2 (.cells #[.slice A l.length c] 33)) 0).trans rfl) (Kd.C_below HR.out HB3.out))
    rw [HS.out] at HSo
    go_wp2_with fail
    refine HSo.out.mono ?_
    rintro e w4 ⟨v, rfl, hv, hb4⟩
    have HV := Sd.mk (Kd.N_lower hv HB3.out.size)
    have HB4 := Sd.mk (HB3.out.trans (hb4.mono HB3.out.size))
    clear hv hb4 HB3 HSo HB2
    go_wp2
    obtain ⟨A3, c3, rfl, hc3, hC3⟩ := Kd.N_reads HV.out
    clear hC3
    have hn2 : s.length < 4611686018427387904 := by have := HN.out; have := HL.out.1; omega
    go_loopw [4] (fun v4 wr => ∃ i : Nat, 1 ≤ i ∧ (i ≤ s.length ∨ i = 1) ∧ v4 = .int .i64 i ∧ Sd (adjEq cmpSer s = adjEq cmpSer (s.drop (i - 1))) ∧ Sd (Kd.N k37 37 wr w.heap.size (fun _ => True) (.slice A3 s.length c3) s) ∧ Sd (Below w.heap.size w wr)) (fun v4 _ => s.length + 1 - (intOf v4).toNat)
    case atStart => exact ⟨1, Nat.le_refl _, .inr rfl, rfl, ⟨rfl⟩, HV, HB4⟩
    case round =>
      clear HV HB4
      obtain ⟨i, h1, hi, rfl, HT, HO, HW⟩ := hrel
      by_cases hlt : i < s.length
      · have hlt' : (i : Int) < (s.length : Int) := by omega
        obtain ⟨j, hj⟩ : ∃ j, i - 1 = j := ⟨_, rfl⟩
        have hjl : j < s.length := by omega
        have bj : (j : Int) < (s.length : Int) := by omega
        have hwp : IntKind.i64.wrap ((i : Int) - 1) = (j : Int) := by rw [IntKind.wrap_i64]; omega
        have hC := (Kd.N_reads' HO.out).2.2
        obtain ⟨ad, Ai, ci, rfl, p0, _, _, _, hCi⟩ := at_T37 hC (i : Int) (by omega) (by omega)
        obtain ⟨ad2, Aj, cj, e2, r0, _, _, _, hCj⟩ := at_T37 hC (j : Int) (by omega) (by omega)
        injection e2 with e2
        subst e2
        rw [rdS_at hlt] at p0 hCi
        rw [rdS_at hjl] at r0 hCj
        rw [Int.toNat_natCast] at p0 r0
        have hst := adjS_step s i h1 hlt
        simp only [hj] at hst
        have HX := Sd.mk (show adjEq cmpSer s = (decide (cmpL s[j].f0 s[i].f0 = 0) || adjEq cmpSer (s.drop i)) by rw [HT.out, hj, hst])
        clear hst hC HT
        have HJ := Sd.mk hj
        clear hj
        generalize s[i].f0 = x at p0 HX hCi
        generalize s[j].f0 = y at r0 HX hCj
        have q0 := fun p : Bw wr => p.cell p0
        have t0 := fun p : Bw wr => p.cell r0
        have hcmp := fun p : Bw wr => p.at (lcompare_calls Aj Ai cj ci y x p.w (Kd.C_below hCj p.h) (Kd.C_below hCi p.h))
        clear p0 r0 hCi hCj
        generalize hcr : cmpL y x = cr at HX hcmp
        clear hcr
        by_cases he : cr = 0
        · subst he
          have HZ := Sd.mk (show adjEq cmpSer s = true by rw [HX.out, decide_eq_true rfl, Bool.true_or])
          go_wp2_with fail
          refine wp_region_Bw (by assumption) (by kernel_rfl) ?_
          repeat (quiet_step ((go_at_call 57; exact hcmp _)))
          refine wpQuiet_nil ?_
          intro _ hw'
          obtain ⟨p, rfl⟩ := hw'
          have HB2 := Sd.mk (HW.out.trans (p.h.mono HW.out.size))
          go_wp2
          go_ret2
          have er : r = ([], 8) := by rw [← HRR.out]; simp [HZ.out]
          exact ⟨.slice none 0 0, by rw [er]; rfl, by rw [er]; exact Kd.N_nil _ _ _ _ _, HB2.out⟩
        · have HZ := Sd.mk (show adjEq cmpSer s = adjEq cmpSer (s.drop (i + 1 - 1)) by rw [HX.out, decide_eq_false he, Bool.false_or, Nat.add_sub_cancel])
          have n0 : (cr == 0) = false := by simpa using he
          clear he HX
          go_wp2_with fail
          refine wp_region_Bw (by assumption) (by kernel_rfl) ?_
          repeat (quiet_step ((go_at_call 57; exact hcmp _)))
          refine wpQuiet_nil ?_
          intro _ hw'
          obtain ⟨p, rfl⟩ := hw'
          have HB2 := Sd.mk (HW.out.trans (p.h.mono HW.out.size))
          have HO2 := Sd.mk (Kd.N_below HO.out p.h)
          go_wp2
          go_roundw
          case rel => exact ⟨i + 1, by omega, .inl (by omega), by go_num, HZ, HO2, HB2⟩
          case measure => simp [intOf]; omega
      · have n1 : decide ((i : Int) < (s.length : Int)) = false := decide_eq_false (by omega)
        have n2 : decide (i < s.length) = false := decide_eq_false hlt
        have HZ := Sd.mk (HT.out.trans (adjS_short (by rw [List.length_drop]; omega)))
        clear hi hlt h1
        by_cases h200 : 200 < s.length
        · have er0 : r = ([], 6) := by rw [← HRR.out]; simp [HZ.out, h200]
          have ER := Sd.mk er0
          clear er0
          have b1 : decide ((s.length : Int) > 200) = true := decide_eq_true (by omega)
          have b2 : decide (200 < s.length) = true := decide_eq_true h200
          clear h200
          go_wp2
          go_ret2
          have er := ER.out
          exact ⟨.slice none 0 0, by rw [er]; rfl, by rw [er]; exact Kd.N_nil _ _ _ _ _, HW.out⟩
        · have er0 : r = (s, 0) := by rw [← HRR.out]; simp [HZ.out, h200]
          have ER := Sd.mk er0
          clear er0
          have b1 : decide ((s.length : Int) > 200) = false := decide_eq_false (by omega)
          have b2 : decide (200 < s.length) = false := decide_eq_false h200
          clear h200
          go_wp2
          go_ret2
          have er := ER.out
          exact ⟨.slice A3 s.length c3, by rw [er]; rfl, by rw [er]; exact HO.out, HW.out⟩
theorem get1_calls (x : Lab) (n : ByteArray) (ad : Addr) (w : World) (hc : w.cell? ad = some (.string n)) : Calls Tryz.prog 153 #[.agg #[.string x.f0, .string x.f1], .pointer (some ad)] w fun e w' => e = .returned (.bool (decide (x.f0.toList = n.toList))) ∧ Below w.heap.size w w' := by
  obtain ⟨s, t⟩ := x
  simp only
  have c0 := pw_cell_below (bal (Below.refl w.heap.size w) (.cells #[.string s, .string t] 62)) hc
  clear hc
  by_cases h : s.toList = n.toList
  · have e1 : (s.toList == n.toList) = true := by simp [h]
    rw [decide_eq_true h]
    have H := Sd.mk h
    clear h
    go_enter Tryz.func153, Tryz.ntmps153
    go_wp2
    go_ret
    exact ⟨by first | rfl | (simp [H.out]; done), by repeat (first | exact Below.refl _ _ | apply bal | apply pbd | apply bd1)⟩
  · have e1 : (s.toList == n.toList) = false := by simp [h]
    rw [decide_eq_false h]
    have H := Sd.mk h
    clear h
    go_enter Tryz.func153, Tryz.ntmps153
    go_wp2
    go_ret
    exact ⟨by first | rfl | (simp [H.out]; done), by repeat (first | exact Below.refl _ _ | apply bal | apply pbd | apply bd1)⟩
theorem idx_get (n : ByteArray) : ∀ (l : List Lab) (i : Nat), (Go.Proofs.YtcmiehddjgfjaaaGreat.I.idxP (fun x : Lab => decide (x.f0.toList = n.toList)) l i = -1 ∧ getL l n = ⟨#[]⟩) ∨ ∃ (k : Nat) (h : k < l.length), Go.Proofs.YtcmiehddjgfjaaaGreat.I.idxP (fun x : Lab => decide (x.f0.toList = n.toList)) l i = ((i + k : Nat) : Int) ∧ getL l n = l[k].f1
  | [], i => .inl ⟨rfl, rfl⟩
  | x :: l, i => by
    rw [Go.Proofs.YtcmiehddjgfjaaaGreat.I.idxP, getL]
    by_cases h : x.f0.toList = n.toList
    · rw [if_pos (decide_eq_true h), if_pos h]
      exact .inr ⟨0, by simp, rfl, rfl⟩
    · rw [if_neg (by simpa using h), if_neg h]
      rcases idx_get n l (i + 1) with ⟨a, b⟩ | ⟨k, hk, a, b⟩
      · exact .inl ⟨a, b⟩
      · exact .inr ⟨k + 1, by simp; omega, by rw [a]; congr 1; omega, b⟩
theorem get_calls (A : Option Addr) (c : Nat) (l : List Lab) (n : ByteArray) (w : World) (hr : Kd.C k62 w A l.length l) :
    Calls Tryz.prog 106 #[.slice A l.length c, .string n] w fun e w' => e = .returned (.string (getL l n)) ∧ Below w.heap.size w w' := by
  have hm : l.length ≤ 9223372036854775807 := Kd.C_max hr
  have eg : ∀ args w, (callFunc 153 args).run Tryz.prog w = .ok (.enter 153 args) w := enters_of Tryz.func153 (by kernel_rfl) rfl
  have hb0 : Below w.heap.size w (w.alloc (.cells #[.string n] 9)) := bal (Below.refl _ _) _
  have hcell : (w.alloc (.cells #[.string n] 9)).cell? ⟨w.heap.size, 0, none⟩ = some (.string n) := (blk_cell (blk_new w _) 0).trans rfl
  have hi := indexLabel (fun x => decide (x.f0.toList = n.toList)) 153 #[.pointer (some ⟨w.heap.size, 0, none⟩)] eg A c l _ (Kd.C_below hr hb0) (fun x hx w1 cs hw hK => by
    obtain rfl := k62_open hK
    exact get1_calls x n _ w1 (pw_cell_below hw hcell))
  have HI := Sd.mk hi
  have HB0 := Sd.mk hb0
  have HR := Sd.mk hr
  clear hi hb0 hr hcell eg
  rcases idx_get n l 0 with ⟨h1, h2⟩ | ⟨k, hk, h1, h2⟩
  · rw [h1] at HI
    have HZ := Sd.mk h2
    clear h1 h2
    go_enter Tryz.func106, Tryz.ntmps106
    go_wp2_with (go_at_call 151; refine HI.out.mono ?_; rintro e w1 ⟨rfl, hb1⟩; have HB := Sd.mk (HB0.out.trans (hb1.mono HB0.out.size)); clear hb1)
    go_ret
    exact ⟨by rw [HZ.out]; rfl, HB.out⟩
  · rw [h1, Nat.zero_add] at HI
    have HZ := Sd.mk h2
    clear h1 h2
    have n0 : decide ((k : Int) < 0) = false := decide_eq_false (by omega)
    have bk : (k : Int) < (l.length : Int) := by omega
    go_enter Tryz.func106, Tryz.ntmps106
    go_wp2_with fail
    refine HI.out.mono ?_
    rintro e w1 ⟨rfl, hb1⟩
    have HB := Sd.mk (HB0.out.trans (hb1.mono HB0.out.size))
    obtain ⟨ad, rfl, p0, p1⟩ := at_T62 (Kd.C_below HR.out HB.out) (k : Int) (by omega) (by omega)
    rw [Int.toNat_natCast, rdL_at hk] at p0 p1
    clear hb1 p0
    generalize l[k].f1 = r at p1 HZ
    go_wp2
    go_ret
    exact ⟨by rw [HZ.out]; rfl, HB.out⟩
def idxL (x : Lab) : List Lab → Nat → Int
  | [], _ => -1
  | y :: l, i => if cmpLab x y = 0 then (i : Int) else idxL x l (i + 1)
def hasL (l : List Lab) (x : Lab) : Bool := l.any fun y => decide (cmpLab x y = 0)
theorem hasL_iff (l : List Lab) (x : Lab) : hasL l x = true ↔ x ∈ l := by
  unfold hasL
  rw [List.any_eq_true]
  constructor
  · rintro ⟨y, hy, h⟩
    rw [cmpLab_eq.1 (of_decide_eq_true h)]; exact hy
  · intro h; exact ⟨x, h, decide_eq_true (cmpLab_eq.2 rfl)⟩
theorem idxL_ge (x : Lab) : ∀ (l : List Lab) (i : Nat), decide (0 ≤ idxL x l i) = hasL l x
  | [], i => by simp [idxL, hasL]
  | y :: l, i => by
    have ih := idxL_ge x l (i + 1)
    unfold hasL at ih ⊢
    rw [idxL, List.any_cons]
    by_cases h : cmpLab x y = 0
    · rw [if_pos h, decide_eq_true h, Bool.true_or]
      exact decide_eq_true (by omega)
    · rw [if_neg h, decide_eq_false h, Bool.false_or, ih]
theorem idxL_calls (A : Option Addr) (c : Nat) (l : List Lab) (x : Lab) (w : World) (hr : Kd.C k62 w A l.length l) :
    Calls Tryz.prog 152 #[.slice A l.length c, .agg #[.string x.f0, .string x.f1]] w fun e w' => e = .returned (.int .i64 (idxL x l 0)) ∧ Below w.heap.size w w' := by
  have hm : l.length ≤ 9223372036854775807 := Kd.C_max hr
  have HR := Sd.mk hr
  have mixed : Tryz.prog.follows .mixedOrders = true := by kernel_rfl
  have HB0 := Sd.mk (bal (Below.refl w.heap.size w) (.cells #[.string x.f0, .string x.f1] 62))
  have X0 := Sd.mk (blk_new w (.cells #[.string x.f0, .string x.f1] 62))
  clear hr
  go_enter Tryz.func152, Tryz.ntmps152
  go_wp2
  go_loopw [4, 5, 8] (fun v4 _ v8 wr => ∃ i : Nat, i ≤ l.length ∧ v4 = .int .i64 0 ∧ v8 = .int .i64 i ∧ Sd (idxL x l 0 = idxL x (l.drop i) i) ∧ Sd (Below (w.alloc (.cells #[.string x.f0, .string x.f1] 62)).heap.size (w.alloc (.cells #[.string x.f0, .string x.f1] 62)) wr)) (fun _ _ v8 _ => l.length - (intOf v8).toNat)
  case atStart => exact ⟨0, Nat.zero_le _, rfl, rfl, ⟨rfl⟩, ⟨Below.refl _ _⟩⟩
  case round =>
    obtain ⟨i, hi, rfl, rfl, HT, HW⟩ := hrel
    have HG := Sd.mk (HB0.out.trans (HW.out.mono HB0.out.size))
    by_cases hlt : i < l.length
    · have b1 : (i : Int) < (l.length : Int) := by omega
      obtain ⟨ad, rfl, p0, p1⟩ := at_T62 (Kd.C_below HR.out HG.out) (i : Int) (by omega) (by omega)
      rw [Int.toNat_natCast, rdL_at hlt] at p0 p1
      have hst : idxL x (l.drop i) i = if cmpLab x l[i] = 0 then (i : Int) else idxL x (l.drop (i + 1)) (i + 1) := by rw [List.drop_eq_getElem_cons hlt, idxL]
      have HX := Sd.mk (HT.out.trans hst)
      clear hst HT
      generalize l[i] = y at p0 p1 HX
      have q0 := fun p : Bw wr => p.cell p0
      have q1 := fun p : Bw wr => p.cell p1
      have s0 := fun p : Bw wr => p.cell ((blk_cell (blk_below X0.out HW.out) 0).trans rfl)
      have s1 := fun p : Bw wr => p.cell ((blk_cell (blk_below X0.out HW.out) 1).trans rfl)
      clear p0 p1
      by_cases he : cmpLab x y = 0
      · have HZ := Sd.mk (HX.out.trans (if_pos he))
        obtain rfl := cmpLab_eq.1 he
        clear he HX
        go_wp2_with fail
        refine wp_region_Bw (by assumption) (by kernel_rfl) ?_
        repeat ((with_reducible refine wpQuiet_step (fun K hK => ?_)); go_simp; first | ((with_reducible refine hK _ ?_); clear hK K) | (rw [if_neg (by decide)]; (with_reducible refine hK _ ?_); clear hK K))
        refine wpQuiet_nil ?_
        intro _ hw'
        obtain ⟨p, rfl⟩ := hw'
        have HB2 := Sd.mk (HG.out.trans (p.h.mono HG.out.size))
        go_wp2
        go_ret
        exact ⟨by rw [HZ.out]; rfl, HB2.out⟩
      · have HZ := Sd.mk (HX.out.trans (if_neg he))
        have ne := lab_ne he
        clear he HX
        go_wp2_with fail
        refine wp_region_Bw (by assumption) (by kernel_rfl) ?_
        repeat ((with_reducible refine wpQuiet_step (fun K hK => ?_)); go_simp; first | ((with_reducible refine hK _ ?_); clear hK K) | (rw [if_neg (by decide)]; (with_reducible refine hK _ ?_); clear hK K))
        refine wpQuiet_nil ?_
        intro _ hw'
        obtain ⟨p, rfl⟩ := hw'
        have HB2 := Sd.mk (HW.out.trans (p.h.mono HW.out.size))
        go_wp2
        go_roundw
        case rel => exact ⟨i + 1, by omega, rfl, by go_num, HZ, HB2⟩
        case measure => simp [intOf]; omega
    · have m1 : decide ((i : Int) < (l.length : Int)) = false := decide_eq_false (by omega)
      have m2 : decide (i < l.length) = false := decide_eq_false hlt
      have HZ := Sd.mk (show idxL x l 0 = -1 by rw [HT.out, List.drop_of_length_le (by omega)]; rfl)
      go_wp2
      go_ret
      exact ⟨by rw [HZ.out]; rfl, HG.out⟩
theorem hasL_calls (A : Option Addr) (c : Nat) (l : List Lab) (x : Lab) (w : World) (hr : Kd.C k62 w A l.length l) :
    Calls Tryz.prog 104 #[.slice A l.length c, .agg #[.string x.f0, .string x.f1]] w fun e w' => e = .returned (.bool (hasL l x)) ∧ Below w.heap.size w w' := by
  have hb := bal (Below.refl w.heap.size w) (.cells #[.string x.f0, .string x.f1] 62)
  have HI := Sd.mk (idxL_calls A c l x _ (Kd.C_below hr hb))
  have HB := Sd.mk hb
  rw [← idxL_ge x l 0]
  generalize idxL x l 0 = r at HI ⊢
  obtain ⟨s, t⟩ := x
  simp only at HI HB
  clear hr hb
  go_enter Tryz.func104, Tryz.ntmps104
  go_wp2_with (go_at_call 152; refine HI.out.mono ?_; rintro e w1 ⟨rfl, hb1⟩; have HE := Sd.mk (HB.out.trans (hb1.mono HB.out.size)); clear hb1)
  go_ret
  exact ⟨by first | rfl | simp, HE.out⟩
theorem within1_calls (B : Option Addr) (c : Nat) (b : List Lab) (x : Lab) (ad : Addr) (w : World) (hr : Kd.C k62 w B b.length b) (hc : w.cell? ad = some (.slice B b.length c)) :
    Calls Tryz.prog 103 #[.agg #[.string x.f0, .string x.f1], .pointer (some ad)] w fun e w' => e = .returned (.bool (!hasL b x)) ∧ Below w.heap.size w w' := by
  have hb := bal (Below.refl w.heap.size w) (.cells #[.string x.f0, .string x.f1] 62)
  have c0 := pw_cell_below hb hc
  have HI := Sd.mk (hasL_calls B c b x _ (Kd.C_below hr hb))
  have HB := Sd.mk hb
  generalize hasL b x = r at HI ⊢
  obtain ⟨s, t⟩ := x
  simp only at HI HB c0 ⊢
  clear hr hb hc
  go_enter Tryz.func103, Tryz.ntmps103
  go_wp2_with (go_at_call 104; refine HI.out.mono ?_; rintro e w1 ⟨rfl, hb1⟩; have HE := Sd.mk (HB.out.trans (hb1.mono HB.out.size)); clear hb1)
  go_ret
  exact ⟨by first | rfl | simp, HE.out⟩
/-- The code's 'within'. -/
def inC (a b : List Lab) : Bool := !a.any fun x => !hasL b x
theorem inC_iff (a b : List Lab) : inC a b = true ↔ Within a b := by
  unfold inC Within
  rw [Bool.not_eq_true', List.any_eq_false]
  constructor
  · intro h x hx
    have := h x hx
    rw [Bool.not_eq_true', Bool.not_eq_false] at this
    exact (hasL_iff b x).1 this
  · intro h x hx
    rw [(hasL_iff b x).2 (h x hx)]; simp
theorem within_calls (A B : Option Addr) (c d : Nat) (a b : List Lab) (w : World) (ha : Kd.C k62 w A a.length a) (hb : Kd.C k62 w B b.length b) :
    Calls Tryz.prog 63 #[.slice A a.length c, .slice B b.length d] w fun e w' => e = .returned (.bool (inC a b)) ∧ Below w.heap.size w w' := by
  have eg : ∀ args w, (callFunc 103 args).run Tryz.prog w = .ok (.enter 103 args) w := enters_of Tryz.func103 (by kernel_rfl) rfl
  have hb0 : Below w.heap.size w (w.alloc (.cells #[.slice B b.length d] 35)) := bal (Below.refl _ _) _
  have hcell : (w.alloc (.cells #[.slice B b.length d] 35)).cell? ⟨w.heap.size, 0, none⟩ = some (.slice B b.length d) := (blk_cell (blk_new w _) 0).trans rfl
  have hi := containsLabel (fun x => !hasL b x) 103 #[.pointer (some ⟨w.heap.size, 0, none⟩)] eg A c a _ (Kd.C_below ha hb0) (fun x hx w1 cs hw hK => by
    obtain rfl := k62_open hK
    exact within1_calls B d b x _ w1 (Kd.C_below (Kd.C_below hb hb0) hw) (pw_cell_below hw hcell))
  unfold inC
  generalize (a.any fun x => !hasL b x) = r at hi ⊢
  have HI := Sd.mk hi
  have HB := Sd.mk hb0
  clear hi hb0 hcell eg ha hb
  go_enter Tryz.func63, Tryz.ntmps63
  go_wp2_with (go_at_call 102; refine HI.out.mono ?_; rintro e w1 ⟨rfl, hb1⟩; have HE := Sd.mk (HB.out.trans (hb1.mono HB.out.size)); clear hb1)
  go_ret
  exact ⟨by first | rfl | simp, HE.out⟩
def fits (x y : Ser) : Bool := inC x.f0 y.f0 || inC y.f0 x.f0
def joinS (op : ByteArray) (x y : Ser) : Ser := ⟨(vJoinL x.f0 y.f0).1, ⟨(vDo op [(x.f1.f0, x.f1.f1), (y.f1.f0, y.f1.f1)]).1.1, (vDo op [(x.f1.f0, x.f1.f1), (y.f1.f0, y.f1.f1)]).1.2⟩⟩
def rowJ (op : ByteArray) (x : Ser) (q : List Ser) : List Ser := (q.filter (fits x)).map (joinS op x)
def pairsJ (op : ByteArray) (p q : List Ser) : List Ser := p.flatMap fun x => rowJ op x q
def vJoin (op : ByteArray) (a b : List Ser) : List Ser × Int := if (vSort a).2 = 0 then (if (vSort b).2 = 0 then (if (vDo op [(1, 0), (1, 0)]).2 = 0 then vSort (pairsJ op (vSort a).1 (vSort b).1) else ([], 2)) else ([], (vSort b).2)) else ([], (vSort a).2)
theorem rowJ_step (op : ByteArray) (x : Ser) (q : List Ser) (j : Nat) (hj : j < q.length) : rowJ op x (q.take (j + 1)) = rowJ op x (q.take j) ++ (if fits x q[j] = true then [joinS op x q[j]] else []) := by
  unfold rowJ
  rw [List.take_add_one, List.getElem?_eq_getElem hj, List.filter_append, List.map_append]
  congr 1
  by_cases h : fits x q[j] = true
  · rw [if_pos h]; simp [h]
  · rw [if_neg h]; simp [h]
theorem pairsJ_step (op : ByteArray) (p q : List Ser) (i : Nat) (hi : i < p.length) : pairsJ op (p.take (i + 1)) q = pairsJ op (p.take i) q ++ rowJ op p[i] q := by
  unfold pairsJ
  rw [List.take_add_one, List.getElem?_eq_getElem hi, List.flatMap_append]
  simp
theorem rowJ_len (op : ByteArray) (x : Ser) (q : List Ser) : (rowJ op x q).length ≤ q.length := by
  unfold rowJ
  rw [List.length_map]
  exact List.length_filter_le _ _
theorem pairsJ_len (op : ByteArray) (q : List Ser) : ∀ p : List Ser, (pairsJ op p q).length ≤ p.length * q.length
  | [] => by simp [pairsJ]
  | x :: p => by
    have h1 := rowJ_len op x q
    have h2 := pairsJ_len op q p
    have e : pairsJ op (x :: p) q = rowJ op x q ++ pairsJ op p q := by unfold pairsJ; rw [List.flatMap_cons]
    rw [e, List.length_append, List.length_cons, Nat.add_mul, Nat.one_mul]
    omega
theorem set_ok {l : List Lab} (h : isSet l = true) : LabsOk l ∧ l.length ≤ 16 := by
  obtain ⟨h1, _, h3⟩ := (isSet_iff l).1 h
  refine ⟨⟨by omega, fun x hx => ?_⟩, h3⟩
  have := h1 x hx
  unfold isLab isName at this
  simp only [Bool.and_eq_true, decide_eq_true_eq] at this
  unfold LabOk
  omega
theorem vSort_ok {l : List Ser} (h : (vSort l).2 = 0) : (∀ x ∈ l, isSet x.f0 = true) ∧ (∀ x ∈ l, isV (x.f1.f0, x.f1.f1)) ∧ adjEq cmpSer (isort (ltOf cmpSer) l) = false ∧ l.length ≤ 200 ∧ (vSort l).1 = isort (ltOf cmpSer) l := by
  unfold vSort at h ⊢
  split at h
  · cases h
  · rename_i h1
    split at h
    · cases h
    · rename_i h2
      split at h
      · cases h
      · rename_i h3
        split at h
        · cases h
        · rename_i h4
          rw [isort_length] at h4
          refine ⟨fun x hx => ?_, fun x hx => ?_, by simpa using h3, by omega, by rw [if_neg h1, if_neg h2, if_neg h3, if_neg (by rw [isort_length]; exact h4)]⟩
          · cases hb : isSet x.f0 with
            | true => rfl
            | false => exact absurd (List.any_eq_true.2 ⟨x, hx, by rw [hb]; rfl⟩) h1
          · by_cases hb : isV (x.f1.f0, x.f1.f1)
            · exact hb
            · exact absurd (List.any_eq_true.2 ⟨x, hx, by unfold badVal; rw [decide_eq_false hb]; rfl⟩) h2
theorem vSort_mem {l : List Ser} (h : (vSort l).2 = 0) {x : Ser} : x ∈ (vSort l).1 ↔ x ∈ l := by
  rw [(vSort_ok h).2.2.2.2]
  exact (isort_perm _ l).mem_iff
theorem vSort_len {l : List Ser} (h : (vSort l).2 = 0) : (vSort l).1.length ≤ 200 := by
  rw [(vSort_ok h).2.2.2.2, isort_length]
  exact (vSort_ok h).2.2.2.1
/-- The labels of two that fit: the longer ones. -/
theorem joinS_labels {op : ByteArray} {x y : Ser} (hx : isSet x.f0 = true) (hy : isSet y.f0 = true) (hf : fits x y = true) : (joinS op x y).f0 = (if x.f0.length < y.f0.length then y.f0 else x.f0) := by
  unfold fits at hf
  rw [Bool.or_eq_true, inC_iff, inC_iff] at hf
  unfold joinS
  rw [join_longer hx hy hf]
theorem pairsJ_sets {op : ByteArray} {p q : List Ser} (hp : ∀ x ∈ p, isSet x.f0 = true) (hq : ∀ x ∈ q, isSet x.f0 = true) : ∀ z ∈ pairsJ op p q, isSet z.f0 = true := by
  intro z hz
  unfold pairsJ rowJ at hz
  obtain ⟨x, hx, hz⟩ := List.mem_flatMap.1 hz
  obtain ⟨y, hy, rfl⟩ := List.mem_map.1 hz
  obtain ⟨hy, hf⟩ := List.mem_filter.1 hy
  rw [joinS_labels (hp x hx) (hq y hy) hf]
  split
  · exact hq y hy
  · exact hp x hx
theorem pairsJ_ok {op : ByteArray} {p q : List Ser} (hp : ∀ x ∈ p, isSet x.f0 = true) (hq : ∀ x ∈ q, isSet x.f0 = true) (lp : p.length ≤ 200) (lq : q.length ≤ 200) : SersOk (pairsJ op p q) := by
  have h1 := pairsJ_len op q p
  have h2 : p.length * q.length ≤ 200 * 200 := Nat.mul_le_mul lp lq
  refine ⟨by omega, fun z hz => ?_⟩
  have h := set_ok (pairsJ_sets hp hq z hz)
  exact ⟨by omega, h.1⟩
theorem info25s : (Tryz.prog.info? 25).map (·.size) = some 2 := by kernel_rfl
theorem FK_val {W : World} {ok : Nat → Prop} {x : Ser} {v : Value} {k n : Int} (h : Kd.FK k37 W ok x [v, .int .i64 k, .int .i64 n]) (y : S25) : Kd.FK k37 W ok ⟨x.f0, y⟩ [v, .int .i64 y.f0, .int .i64 y.f1] := fun W' hW => by
  obtain ⟨A0, c0, e, l0, g0⟩ := k37_open (h W' hW)
  injection e with e _
  subst e
  exact k37_mk W' (⟨x.f0, y⟩ : Ser) l0 g0
/-- Element i of a row of the call's own, read. -/
theorem own_at {W : World} {base g n c : Nat} {ok : Nat → Prop} {xs : List Ser} (HO : Kd.N k37 37 W base ok (.slice (some ⟨g, 0, none⟩) n c) xs) (i : Nat) (hi : i < xs.length) :
    ∃ A0 c0, W.cell? ⟨g, i * 3, none⟩ = some (.slice A0 (xs[i]).f0.length c0) ∧ W.cell? ⟨g, i * 3 + 1, none⟩ = some (.int .i64 (xs[i]).f1.f0) ∧ W.cell? ⟨g, i * 3 + 2, none⟩ = some (.int .i64 (xs[i]).f1.f1) ∧ (xs[i]).f0.length ≤ c0 ∧ Kd.C k62 W A0 (xs[i]).f0.length (xs[i]).f0 ∧ Kd.FK k37 W (fun k => ok k ∧ k ≠ g) xs[i] [.slice A0 (xs[i]).f0.length c0, .int .i64 (xs[i]).f1.f0, .int .i64 (xs[i]).f1.f1] := by
  have hn := (Kd.N_reads' HO).1
  obtain ⟨cs, hl, hK, hc, _⟩ := Kd.N_elem HO z37 (i : Int) (by omega) (by omega)
  rw [Int.toNat_natCast, List.getD_eq_getElem?_getD, List.getElem?_eq_getElem hi] at hK
  rw [Int.toNat_natCast] at hc
  obtain ⟨A0, c0, rfl, l0, g0⟩ := k37_open (Kd.FK_now hK)
  exact ⟨A0, c0, hc 0 _ rfl, hc 1 _ rfl, hc 2 _ rfl, l0, g0, hK⟩
/-- l[i].Value = y, in a row of the call's own. -/
theorem store_val {ops : Array Oper} {rest : List Oper} {o : Oper} {a : Act} {Q : Exit → Act → World → Prop} {w0 W : World} {base : Nat} (x' y' : Operand) (hN : o.dst = none) (hgd : o.guard = none) (ho : o.op = .store 25 x' y') {g n c o' : Nat} (i : Nat) (xs : List Ser) (y : S25)
    (haddr : a.eval x' = .pointer (some ⟨g, o', none⟩)) (hoff : o' = i * 3 + 1) (hx : a.eval y' = .agg #[.int .i64 y.f0, .int .i64 y.f1])
    (HO : Kd.N k37 37 W base (fun _ => True) (.slice (some ⟨g, 0, none⟩) n c) xs) (hi : i < xs.length) (HB : Below base w0 W)
    (h : ∀ w1, Kd.N k37 37 w1 base (fun _ => True) (.slice (some ⟨g, 0, none⟩) n c) (xs.set i ⟨(xs[i]).f0, y⟩) → Below base w0 w1 → W.grownBy w1 (some g) → wpList Tryz.prog ops Q rest a w1) : wpList Tryz.prog ops Q (o :: rest) a W := by
  obtain ⟨A0, c0, o0, o1, o2, l0, g0, hK⟩ := own_at HO i hi
  have hn := (Kd.N_reads' HO).1
  refine Kd.N_store k37 (w0 := w0) base hN hgd 25 x' y' ho 37 (i : Int) 1 xs ⟨(xs[i]).f0, y⟩ (.agg #[.int .i64 y.f0, .int .i64 y.f1]) [.int .i64 y.f0, .int .i64 y.f1] [.slice A0 (xs[i]).f0.length c0, .int .i64 (xs[i]).f1.f0, .int .i64 (xs[i]).f1.f1] (fun _ => True) (fun k => True ∧ k ≠ g) haddr (by rw [hoff]; rfl) hx (by simp [Value.cells]) info25s ?_ HO (by omega) (by omega) rfl ?_ (Nat.le_refl 3) (FK_val hK y) (fun _ hk => hk) HB (by rw [Int.toNat_natCast]; exact h)
  · intro q hq
    simp only [List.mem_cons, List.not_mem_nil, or_false] at hq
    rcases hq with rfl | rfl <;> rfl
  · intro m u hu
    rw [Int.toNat_natCast]
    match m, hu with
    | 0, hu => injection hu with hu; subst hu; exact o0
    | 1, hu => injection hu with hu; subst hu; exact o1
    | 2, hu => injection hu with hu; subst hu; exact o2
    | m + 3, hu => simp at hu
def mapV (op : ByteArray) (s : Ser) : Ser := ⟨s.f0, ⟨(vDo op [(s.f1.f0, s.f1.f1)]).1.1, (vDo op [(s.f1.f0, s.f1.f1)]).1.2⟩⟩
/-- An operation of each value. -/
def vMap (op : ByteArray) (l : List Ser) : List Ser × Int := if (vSort l).2 = 0 then (if (vDo op [(1, 0)]).2 = 0 then ((vSort l).1.map (mapV op), 0) else ([], 2)) else ([], (vSort l).2)
theorem mapped_step {α : Type} (f : α → α) (s : List α) (i : Nat) (hi : i < s.length) : ((s.take i).map f ++ s.drop i).set i (f s[i]) = (s.take (i + 1)).map f ++ s.drop (i + 1) := by
  have hl : ((s.take i).map f).length = i := by rw [List.length_map, List.length_take]; omega
  rw [List.set_append_right _ _ (by omega), hl, Nat.sub_self, List.drop_eq_getElem_cons hi, List.set_cons_zero, List.take_add_one, List.getElem?_eq_getElem hi, List.map_append, List.append_assoc]
  rfl
theorem mapped_at {α : Type} (f : α → α) (s : List α) (i : Nat) (hi : i < s.length) : ∃ h : i < ((s.take i).map f ++ s.drop i).length, ((s.take i).map f ++ s.drop i)[i] = s[i] := by
  have hl : ((s.take i).map f).length = i := by rw [List.length_map, List.length_take]; omega
  refine ⟨by rw [List.length_append, hl, List.length_drop]; omega, ?_⟩
  rw [List.getElem_append_right (by omega), List.getElem_drop]
  congr 1
  omega
theorem smap_calls (op : ByteArray) (A : Option Addr) (c : Nat) (l : List Ser) (hl : SersOk l) (w : World) (hr : Kd.C k37 w A l.length l) :
    Calls Tryz.prog 21 #[.string op, .slice A l.length c] w fun e w' => ∃ v : Value, e = .returned (.tuple #[v, .int .i64 (vMap op l).2]) ∧ Kd.N k37 37 w' w.heap.size (fun _ => True) v (vMap op l).1 ∧ Below w.heap.size w w' := by
  have HSo := Sd.mk (ssort_calls A c l hl w hr)
  unfold vMap
  have hlen : (vSort l).1.length ≤ l.length := by
    unfold vSort
    repeat' split
    all_goals first | exact Nat.zero_le _ | exact Nat.le_of_eq (isort_length l)
  have hmx : l.length < 3518437208883 := hl.1
  generalize vSort l = sr at HSo hlen ⊢
  obtain ⟨s, e0⟩ := sr
  simp only at HSo hlen ⊢
  have hmx2 : s.length < 3518437208883 := by omega
  clear hlen hmx
  have mixed : Tryz.prog.follows .mixedOrders = true := by kernel_rfl
  have hkn := fun w1 => knows1_calls op w1
  generalize (vDo op [(1, 0)]).2 = kn at hkn ⊢
  have HK := Sd.mk hkn
  clear hkn
  by_cases h0 : e0 = 0
  · subst h0
    rw [if_pos rfl]
    by_cases hk : kn = 0
    · rw [if_pos hk]
      rw [decide_eq_true hk] at HK
      clear hk
      go_enter Tryz.func21, Tryz.ntmps21
      go_wp2_with fail
      refine HSo.out.mono ?_
      rintro e w1 ⟨v, rfl, hv, hb1⟩
      have HV := Sd.mk hv
      have HB := Sd.mk hb1
      obtain ⟨A3, c3, rfl, hc3, hC3⟩ := Kd.N_reads hv
      clear hv hb1 hC3
      go_wp2_with fail
      refine (HK.out w1).mono ?_
      rintro e w2 ⟨rfl, hb2⟩
      have HV2 := Sd.mk (Kd.N_below HV.out hb2)
      have HB2 := Sd.mk (HB.out.trans (hb2.mono HB.out.size))
      clear hb2 HV HB
      go_wp2
      go_loopw [24] (fun v24 wr => ∃ i : Nat, i ≤ s.length ∧ v24 = .int .i64 i ∧ Sd (Kd.N k37 37 wr w.heap.size (fun _ => True) (.slice A3 s.length c3) ((s.take i).map (mapV op) ++ s.drop i)) ∧ Sd (Below w.heap.size w wr)) (fun v24 _ => s.length - (intOf v24).toNat)
      case atStart => exact ⟨0, Nat.zero_le _, rfl, by simpa using HV2, HB2⟩
      case round =>
        clear HV2 HB2
        obtain ⟨i, hi, rfl, HO, HW⟩ := hrel
        by_cases hlt : i < s.length
        · have b1 : (i : Int) < (s.length : Int) := by omega
          obtain ⟨hi2, hat⟩ := mapped_at (mapV op) s i hlt
          have hstep := mapped_step (mapV op) s i hlt
          obtain ⟨g, cp, hv, h5, h6, h7⟩ := Kd.N_form HO.out (by omega)
          injection hv with hA hB5 hC5
          subst hA
          clear h5 h6 h7 hB5 hC5
          generalize (s.take i).map (mapV op) ++ s.drop i = cur at HO hi2 hat hstep
          obtain ⟨A0, c0, o0, o1, o2, l0, g0, hK⟩ := own_at HO.out i hi2
          have hmv : mapV op s[i] = ⟨cur[i].f0, ⟨(vDo op [(cur[i].f1.f0, cur[i].f1.f1)]).1.1, (vDo op [(cur[i].f1.f0, cur[i].f1.f1)]).1.2⟩⟩ := by rw [hat]; rfl
          rw [hmv] at hstep
          clear hmv hat hK g0 l0
          rcases hdo : vDo op [(cur[i].f1.f0, cur[i].f1.f1)] with ⟨⟨r1, r2⟩, r3⟩
          rw [hdo] at hstep
          simp only at hstep
          have HD := Sd.mk (do1_any op cur[i].f1.f0 cur[i].f1.f1 (wr.alloc (.cells #[.slice A0 cur[i].f0.length c0, .int .i64 cur[i].f1.f0, .int .i64 cur[i].f1.f1] 37)) hdo)
          have HBx := Sd.mk (below1 wr (.cells #[.slice A0 cur[i].f0.length c0, .int .i64 cur[i].f1.f0, .int .i64 cur[i].f1.f1] 37))
          simp only [World.size_alloc] at HD
          have HST := Sd.mk hstep
          have HI := Sd.mk hi2
          have hadd : i * 3 + 1 = i * 3 + 1 := rfl
          clear hstep hdo hadd
          generalize hy0 : cur[i].f0.length = y0 at o0 HD HBx
          generalize hy1 : cur[i].f1.f0 = y1 at o1 HD HBx
          generalize hy2 : cur[i].f1.f1 = y2 at o2 HD HBx
          clear hy0 hy1 hy2
          go_wp2_with fail
          refine HD.out.mono ?_
          rintro e w3 ⟨rfl, hb3⟩
          have hb4 := HBx.out.trans (hb3.mono (Nat.le_succ _))
          have HO3 := Sd.mk (Kd.N_below HO.out hb4)
          have HW3 := Sd.mk (HW.out.trans (hb4.mono HW.out.size))
          clear hb3 hb4
          go_wp2_with ((with_reducible refine gate_ (.store 25 (.tmp 40) (.tmp 37)) rfl ?_); refine store_val (w0 := w) (base := w.heap.size) (.tmp 40) (.tmp 37) rfl rfl rfl i cur ⟨r1, r2⟩ rfl ?_ rfl HO3.out HI.out HW3.out ?_ ; (first | rfl | omega | skip); intro w5 ho hb5 hg5; have HO5 := Sd.mk ho; have HW5 := Sd.mk hb5; clear ho hb5 hg5)
          go_roundw
          case rel => exact ⟨i + 1, by omega, by go_num, ⟨by rw [← HST.out]; exact HO5.out⟩, HW5⟩
          case measure => simp [intOf]; omega
        · have n1 : decide ((i : Int) < (s.length : Int)) = false := decide_eq_false (by omega)
          have n2 : decide (i < s.length) = false := decide_eq_false hlt
          have hi' : i = s.length := by omega
          have HE : Sd ((s.take i).map (mapV op) ++ s.drop i = s.map (mapV op)) := ⟨by rw [hi', List.take_length, List.drop_length, List.append_nil]⟩
          clear hi' hlt hi
          go_wp2
          go_ret2
          exact ⟨_, rfl, by rw [← HE.out]; exact HO.out, HW.out⟩
    · rw [if_neg hk]
      rw [decide_eq_false hk] at HK
      clear hk
      go_enter Tryz.func21, Tryz.ntmps21
      go_wp2_with fail
      refine HSo.out.mono ?_
      rintro e w1 ⟨v, rfl, hv, hb1⟩
      have HB := Sd.mk hb1
      clear hv hb1
      go_wp2_with fail
      refine (HK.out w1).mono ?_
      rintro e w2 ⟨rfl, hb2⟩
      have HB2 := Sd.mk (HB.out.trans (hb2.mono HB.out.size))
      clear hb2
      go_wp2
      go_ret2
      exact ⟨.slice none 0 0, rfl, Kd.N_nil _ _ _ _ _, HB2.out⟩
  · rw [if_neg h0]
    have n0 : (e0 == 0) = false := by simpa using h0
    have n1 : (e0 != 0) = true := by simpa using h0
    clear h0
    go_enter Tryz.func21, Tryz.ntmps21
    go_wp2_with fail
    refine HSo.out.mono ?_
    rintro e w1 ⟨v, rfl, hv, hb1⟩
    have HB := Sd.mk hb1
    clear hv hb1
    go_wp2
    go_ret2
    exact ⟨.slice none 0 0, rfl, Kd.N_nil _ _ _ _ _, HB.out⟩
theorem vSort_strict {l : List Ser} (h1 : ∀ x ∈ l, isSet x.f0 = true) (h2 : ∀ x ∈ l, isV (x.f1.f0, x.f1.f1)) (h3 : Strict cmpSer l) (h4 : l.length ≤ 200) : vSort l = (l, 0) := by
  have e := isort_id cmpSer3 (h3.sorted cmpSer3)
  unfold vSort
  rw [if_neg (by
    intro h
    obtain ⟨x, hx, hb⟩ := List.any_eq_true.1 h
    rw [h1 x hx] at hb
    cases hb), if_neg (by
    intro h
    obtain ⟨x, hx, hb⟩ := List.any_eq_true.1 h
    unfold badVal at hb
    rw [decide_eq_true (h2 x hx)] at hb
    cases hb), e, if_neg (by rw [adj_apart h3.apart]; simp), if_neg (by omega)]
theorem vSort_isStrict {l : List Ser} (h : (vSort l).2 = 0) : Strict cmpSer (vSort l).1 := by
  rw [(vSort_ok h).2.2.2.2]
  exact adj_sorted cmpSer3 (isort_sorted cmpSer3.ord l) (vSort_ok h).2.2.1
theorem vSort_none {l : List Ser} (h : (vSort l).2 ≠ 0) : (vSort l).1 = [] := by
  unfold vSort at h ⊢
  repeat' split
  all_goals first | rfl | skip
  all_goals (rename_i h1 h2 h3 h4; rw [if_neg h1, if_neg h2, if_neg h3, if_neg h4] at h; exact absurd rfl h)
theorem sers_ok {l : List Ser} (h : (vSort l).2 = 0) : SersOk (vSort l).1 := by
  have hl := vSort_len h
  refine ⟨by omega, fun x hx => ?_⟩
  have := set_ok ((vSort_ok h).1 x ((vSort_mem h).1 hx))
  exact ⟨by omega, this.1⟩
theorem ljoin_calls (A B : Option Addr) (ca cb : Nat) (a b : List Lab) (ha : LabsOk a) (hb : LabsOk b) (hn : (a.length + b.length) * 32 ≤ 140737488355328) (w : World) (hA : Kd.C k62 w A a.length a) (hB : Kd.C k62 w B b.length b) :
    Calls Tryz.prog 64 #[.slice A a.length ca, .slice B b.length cb] w fun e w' => ∃ v : Value, e = .returned (.tuple #[v, .bool (vJoinL a b).2]) ∧ Kd.R k62 62 w' w.heap.size (fun _ => True) v (vJoinL a b).1 ∧ Below w.heap.size w w' := by
  generalize hrr : vJoinL a b = r
  have HRR := Sd.mk hrr
  have HA := Sd.mk hA
  have HB := Sd.mk hB
  have HN := Sd.mk hn
  have HLA := Sd.mk ha
  have HLB := Sd.mk hb
  have hbl : b.length < 4611686018427387904 := hb.1
  clear hrr hA hB hn ha hb
  have mixed : Tryz.prog.follows .mixedOrders = true := by kernel_rfl
  go_enter Tryz.func64, Tryz.ntmps64
  go_wp2_with (go_at_call 105; refine (cloneLabel A ca a _ HA.out (by have := HN.out; omega)).mono ?_; rintro e w2 ⟨v, rfl, hv, hb2⟩; have HV := Sd.mk hv; have HB2 := Sd.mk hb2; clear hv hb2)
  go_loopw [6, 16] (fun v6 v16 wr => ∃ (i : Nat) (all : List Lab), i ≤ b.length ∧ v16 = .int .i64 i ∧ Sd (joinGo a a b = joinGo a all (b.drop i)) ∧ Sd (all.length ≤ a.length + i) ∧ Sd (∀ x ∈ all, x ∈ a ∨ x ∈ b) ∧ Sd (Kd.R k62 62 wr w.heap.size (fun _ => True) v6 all) ∧ Sd (Below w.heap.size w wr)) (fun _ v16 _ => b.length - (intOf v16).toNat)
  case atStart => exact ⟨0, a, Nat.zero_le _, rfl, ⟨rfl⟩, ⟨Nat.le_refl _⟩, ⟨fun x h => .inl h⟩, HV, HB2⟩
  case round =>
    clear HV HB2
    obtain ⟨i, all, hi, rfl, HT, HG, HI, HO, HW⟩ := hrel
    by_cases hlt : i < b.length
    · have b1 : (i : Int) < (b.length : Int) := by omega
      obtain ⟨ad, rfl, p0, p1⟩ := at_T62 (Kd.C_below HB.out HW.out) (i : Int) (by omega) (by omega)
      rw [Int.toNat_natCast, rdL_at hlt] at p0 p1
      have hst : joinGo a all (b.drop i) = if getL a b[i].f0 = ⟨#[]⟩ then joinGo a (all ++ [b[i]]) (b.drop (i + 1)) else if getL a b[i].f0 = b[i].f1 then joinGo a all (b.drop (i + 1)) else none := by rw [List.drop_eq_getElem_cons hlt, joinGo]
      have HX := Sd.mk (HT.out.trans hst)
      have HXB := Sd.mk (List.getElem_mem hlt)
      clear hst HT
      generalize b[i] = y at p0 p1 HX HXB
      obtain ⟨s, t⟩ := y
      simp only at p0 p1 HX
      have hb0 := bal (Below.refl wr.heap.size wr) (.cells #[.string s, .string t] 62)
      have HGet := Sd.mk (get_calls A ca a s _ (Kd.C_below HA.out (HW.out.trans (hb0.mono HW.out.size))))
      have X0 := Sd.mk (blk_new wr (.cells #[.string s, .string t] 62))
      have HB0 := Sd.mk hb0
      clear hb0
      generalize getL a s = g at HGet HX
      by_cases he : g = ⟨#[]⟩
      · subst he
        have HZ := Sd.mk (HX.out.trans (if_pos rfl))
        clear HX
        go_wp2_with fail
        refine HGet.out.mono ?_
        rintro e w1 ⟨rfl, hb1⟩
        have H1 := Sd.mk (HB0.out.trans (hb1.mono HB0.out.size))
        have c0 := (blk_cell (blk_below X0.out hb1) 0).trans rfl
        have c1 := (blk_cell (blk_below X0.out hb1) 1).trans rfl
        clear hb1
        have HO1 := Sd.mk (Kd.R_below HO.out H1.out)
        have HW1 := Sd.mk (HW.out.trans (H1.out.mono HW.out.size))
        go_wp2_with ((with_reducible refine gate_builtin (b := .append) (xs := #[.tmp 27, .tmp 29]) rfl ?_); at_builtin; refine Kd.R_append k62 (w0 := w) w.heap.size rfl (.tmp 27) (.tmp 29) 35 62 (.agg #[(.string ⟨#[]⟩), (.string ⟨#[]⟩)]) 32 rfl Tryz.underlying35 info62 rfl (by decide) (by omega) u6 all (⟨s, t⟩ : Lab) [.string s, .string t] (fun _ => True) (fun _ => False) rfl rfl ?aP (fun _ hk => hk.elim) ?aF ?aO ?aB ?aS ?aL ?_; (case aP => exact k62_mkM _ _ _ (⟨s, t⟩ : Lab)); (case aB => exact HW1.out); (case aF => exact (fun _ _ => trivial)); (case aO => exact HO1.out); (case aS => exact HW1.out.size); (case aL => have := HG.out; have := HN.out; omega); intro v7 w3 ho hb3 hg hat; have HO2 := Sd.mk ho; have HW2 := Sd.mk hb3; clear ho hb3 hg hat)
        go_roundw
        case rel => exact ⟨i + 1, all ++ [⟨s, t⟩], by omega, by go_num, HZ, ⟨by have := HG.out; simp; omega⟩, ⟨fun x hx => by
          rcases List.mem_append.1 hx with h | h
          · exact HI.out x h
          · rw [List.mem_singleton.1 h]; exact .inr HXB.out⟩, HO2, HW2⟩
        case measure => simp [intOf]; omega
      · have hX2 := HX.out
        rw [if_neg he] at hX2
        have e0 : ¬ g.toList = ([] : List UInt8) := fun h => he ((toList_eq g ⟨#[]⟩).1 (h.trans (by rw [Lib.toList_data])))
        have e1 : (g.toList == ([] : List UInt8)) = false := by simpa using e0
        have e2 : g.toList.isEmpty = false := by simpa using e0
        clear HX he
        by_cases ht : g = t
        · subst ht
          rw [if_pos rfl] at hX2
          have HZ := Sd.mk hX2
          clear hX2
          go_wp2_with fail
          refine HGet.out.mono ?_
          rintro e w1 ⟨rfl, hb1⟩
          have H1 := Sd.mk (HB0.out.trans (hb1.mono HB0.out.size))
          have c0 := (blk_cell (blk_below X0.out hb1) 0).trans rfl
          have c1 := (blk_cell (blk_below X0.out hb1) 1).trans rfl
          clear hb1
          have HO1 := Sd.mk (Kd.R_below HO.out H1.out)
          have HW1 := Sd.mk (HW.out.trans (H1.out.mono HW.out.size))
          go_wp2
          go_roundw
          case rel => exact ⟨i + 1, all, by omega, by go_num, HZ, ⟨by have := HG.out; omega⟩, HI, HO1, HW1⟩
          case measure => simp [intOf]; omega
        · rw [if_neg ht] at hX2
          have HZ := Sd.mk hX2
          have f0 : (g.toList == t.toList) = false := by rw [beq_eq_false_iff_ne]; exact fun h => ht ((toList_eq _ _).1 h)
          have f1 : ¬ g.toList = t.toList := fun h => ht ((toList_eq _ _).1 h)
          clear hX2 ht
          go_wp2_with fail
          refine HGet.out.mono ?_
          rintro e w1 ⟨rfl, hb1⟩
          have H1 := Sd.mk (HB0.out.trans (hb1.mono HB0.out.size))
          have c0 := (blk_cell (blk_below X0.out hb1) 0).trans rfl
          have c1 := (blk_cell (blk_below X0.out hb1) 1).trans rfl
          clear hb1
          have HW1 := Sd.mk (HW.out.trans (H1.out.mono HW.out.size))
          go_wp2
          go_ret2
          have er : r = ([], false) := by rw [← HRR.out]; unfold vJoinL; rw [HZ.out]
          exact ⟨.slice none 0 0, by rw [er]; rfl, by rw [er]; exact Kd.R_nil _ _ _ _ _, HW1.out⟩
    · have n1 : decide ((i : Int) < (b.length : Int)) = false := decide_eq_false (by omega)
      have n2 : decide (i < b.length) = false := decide_eq_false hlt
      have hz : joinGo a a b = some all := by rw [HT.out, List.drop_of_length_le (by omega), joinGo]
      have er0 : r = ((vMake all).1, (vMake all).2 == 0) := by rw [← HRR.out]; unfold vJoinL; rw [hz]
      have hal : all.length ≤ a.length + b.length := by have := HG.out; omega
      have hok : LabsOk all := ⟨by have := HN.out; omega, fun x hx => (HI.out x hx).elim (HLA.out.2 x) (HLB.out.2 x)⟩
      obtain ⟨A3, c3, rfl, _, hC3⟩ := Kd.R_reads HO.out
      have HM := Sd.mk (lmake_calls A3 c3 all hok (by have := HN.out; omega) wr hC3)
      generalize vMake all = m at er0 HM
      obtain ⟨ml, me⟩ := m
      simp only at er0 HM
      have ER := Sd.mk er0
      clear er0 hok hC3 hz hal HT hi hlt
      go_wp2_with fail
      refine HM.out.mono ?_
      rintro e w1 ⟨v, rfl, hv, hb1⟩
      have HV := Sd.mk (Kd.R_lower hv HW.out.size)
      have HE := Sd.mk (HW.out.trans (hb1.mono HW.out.size))
      clear hv hb1
      go_wp2
      go_ret2
      have er := ER.out
      exact ⟨v, by rw [er]; rfl, by rw [er]; exact HV.out, HE.out⟩
/-- A row that is only read, behind whatever leaves the blocks below B. -/
theorem N_under {W0 W : World} {base B : Nat} {v : Value} {xs : List Ser} (h : Kd.N k37 37 W0 base (fun k => k < B) v xs) (hb : Below B W0 W) : Kd.N k37 37 W base (fun k => k < B) v xs := Kd.N_step h (fun k hk _ => hb.block k hk)
/-- Element i of a row that is only read. -/
theorem read_at {W : World} {base : Nat} {ok : Nat → Prop} {A : Option Addr} {n c : Nat} {xs : List Ser} (HO : Kd.N k37 37 W base ok (.slice A n c) xs) (i : Nat) (hi : i < xs.length) :
    ∃ g A0 c0, A = some ⟨g, 0, none⟩ ∧ W.cell? ⟨g, i * 3, none⟩ = some (.slice A0 (xs[i]).f0.length c0) ∧ W.cell? ⟨g, i * 3 + 1, none⟩ = some (.int .i64 (xs[i]).f1.f0) ∧ W.cell? ⟨g, i * 3 + 2, none⟩ = some (.int .i64 (xs[i]).f1.f1) ∧ Kd.F k62 W ok A0 (xs[i]).f0.length (xs[i]).f0 := by
  obtain ⟨g, cp, hv, _, _, _⟩ := Kd.N_form HO (by omega)
  injection hv with hA hB hC
  subst hA
  obtain ⟨A0, c0, o0, o1, o2, l0, g0, hK⟩ := own_at HO i hi
  refine ⟨g, A0, c0, rfl, o0, o1, o2, fun W' hW => ?_⟩
  obtain ⟨A1, c1, e, _, g1⟩ := k37_open (hK W' (fun k hk hlt => hW k hk.1 hlt))
  injection e with e _
  injection e with e _ _
  subst e
  exact g1
theorem FK_new {W : World} {ok : Nat → Prop} {A : Option Addr} {c : Nat} {x : List Lab} {k n : Int} (h : Kd.F k62 W ok A x.length x) (hc : x.length ≤ c) : Kd.FK k37 W ok (⟨x, ⟨k, n⟩⟩ : Ser) [.slice A x.length c, .int .i64 k, .int .i64 n] := fun W' hW => k37_mk W' (⟨x, ⟨k, n⟩⟩ : Ser) hc (h W' hW)
theorem own_ne {W : World} {v v1 : Value} {b : Nat} (hat : v1.ownBlock = v.ownBlock ∨ ∃ b, v1.ownBlock = some b ∧ W.heap.size ≤ b) (hne : some b ≠ v.ownBlock) (hb : b < W.heap.size) : some b ≠ v1.ownBlock := by
  rcases hat with h | ⟨b', h, hle⟩
  · rw [h]; exact hne
  · rw [h]
    intro e
    injection e with e
    omega
theorem sjoin_calls (op : ByteArray) (A B : Option Addr) (c d : Nat) (a b : List Ser) (ha : SersOk a) (hb : SersOk b) (w : World) (hA : Kd.C k37 w A a.length a) (hB : Kd.C k37 w B b.length b) :
    Calls Tryz.prog 19 #[.string op, .slice A a.length c, .slice B b.length d] w fun e w' => ∃ v : Value, e = .returned (.tuple #[v, .int .i64 (vJoin op a b).2]) ∧ Kd.N k37 37 w' w.heap.size (fun _ => True) v (vJoin op a b).1 ∧ Below w.heap.size w w' := by
  have HSa := Sd.mk (ssort_calls A c a ha w hA)
  have HSb := Sd.mk (fun (w1 : World) (h : Below w.heap.size w w1) => ssort_calls B d b hb w1 (Kd.C_below hB h))
  have HK := Sd.mk (fun w1 => knows2_calls op w1)
  have HMa := Sd.mk (fun (h : (vSort a).2 = 0) => And.intro (fun x hx => (vSort_ok h).1 x ((vSort_mem h).1 hx)) (vSort_len h))
  have HMb := Sd.mk (fun (h : (vSort b).2 = 0) => And.intro (fun x hx => (vSort_ok h).1 x ((vSort_mem h).1 hx)) (vSort_len h))
  unfold vJoin
  clear ha hb hA hB
  generalize vSort a = ra at HSa HMa ⊢
  generalize vSort b = rb at HSb HMb ⊢
  obtain ⟨p, e1⟩ := ra
  obtain ⟨q, e2⟩ := rb
  simp only at HSa HSb HMa HMb ⊢
  generalize (vDo op [(1, 0), (1, 0)]).2 = kn at HK ⊢
  have mixed : Tryz.prog.follows .mixedOrders = true := by kernel_rfl
  by_cases h1 : e1 = 0
  · subst h1
    rw [if_pos rfl]
    by_cases h2 : e2 = 0
    · subst h2
      rw [if_pos rfl]
      by_cases hk : kn = 0
      · rw [if_pos hk]
        rw [decide_eq_true hk] at HK
        clear hk
        have hPs := (HMa.out rfl).1
        have hQs := (HMb.out rfl).1
        have lp := (HMa.out rfl).2
        have lq := (HMb.out rfl).2
        have HPs := Sd.mk hPs
        have HQs := Sd.mk hQs
        have HOK := Sd.mk (pairsJ_ok (op := op) hPs hQs lp lq)
        clear hPs hQs HMa HMb
        go_enter Tryz.func19, Tryz.ntmps19
        go_wp2_with fail
        refine HSa.out.mono ?_
        rintro e w1 ⟨va, rfl, hva, hb1⟩
        have HB1 := Sd.mk hb1
        have HSb1 := Sd.mk (HSb.out w1 hb1)
        obtain ⟨A3, c3, rfl, _, _⟩ := Kd.N_reads hva
        have HVa := Sd.mk hva
        clear hva hb1 HSb HSa
        go_wp2_with fail
        refine HSb1.out.mono ?_
        rintro e w2 ⟨vb, rfl, hvb, hb2⟩
        have HB2 := Sd.mk (HB1.out.trans (hb2.mono HB1.out.size))
        have HVa2 := Sd.mk (Kd.N_below HVa.out hb2)
        obtain ⟨B3, d3, rfl, _, _⟩ := Kd.N_reads hvb
        have HVb2 := Sd.mk (Kd.N_lower hvb HB1.out.size)
        clear hvb hb2 HB1 HVa HSb1
        go_wp2_with fail
        refine (HK.out w2).mono ?_
        rintro e w3 ⟨rfl, hb3⟩
        have HB3 := Sd.mk (HB2.out.trans (hb3.mono HB2.out.size))
        have HPa := Sd.mk (Kd.N_mono (Kd.N_bound (Kd.N_below HVa2.out hb3)) (ok' := fun k => k < w3.heap.size) (fun k hk => hk.2))
        have HPb := Sd.mk (Kd.N_mono (Kd.N_bound (Kd.N_below HVb2.out hb3)) (ok' := fun k => k < w3.heap.size) (fun k hk => hk.2))
        clear hb3 HVa2 HVb2 HB2
        go_wp2
        go_loopw [6, 39] (fun v6 v39 wr => ∃ i : Nat, i ≤ p.length ∧ v39 = .int .i64 i ∧ Sd (Kd.N k37 37 wr w3.heap.size (fun _ => True) v6 (pairsJ op (p.take i) q)) ∧ Sd (Below w3.heap.size w3 wr)) (fun _ v39 _ => p.length - (intOf v39).toNat)
        case atStart => exact ⟨0, Nat.zero_le _, rfl, ⟨Kd.N_nil _ _ _ _ _⟩, ⟨Below.refl _ _⟩⟩
        case round =>
          obtain ⟨i, hi, rfl, HO, HW⟩ := hrel
          rename World => wo
          by_cases hlt : i < p.length
          · have b1 : (i : Int) < (p.length : Int) := by omega
            obtain ⟨ga, Ax, cx, hAe, x0, x1, x2, hFx⟩ := read_at (N_under HPa.out HW.out) i hlt
            subst hAe
            have HPst := Sd.mk (pairsJ_step op p q i hlt)
            have HxS := Sd.mk (HPs.out _ (List.getElem_mem hlt))
            have HFx := Sd.mk (Kd.F_bound hFx)
            have HoL := Sd.mk (Nat.le_trans (pairsJ_len op q (p.take i)) (Nat.mul_le_mul (by rw [List.length_take]; omega : (p.take i).length ≤ 200) lq))
            generalize p[i] = x at x0 x1 x2 hFx HPst HxS HFx
            clear hFx
            have HX := Sd.mk (blk_new wo (.cells #[.slice Ax x.f0.length cx, .int .i64 x.f1.f0, .int .i64 x.f1.f1] 37))
            have HWx := Sd.mk (bal HW.out (.cells #[.slice Ax x.f0.length cx, .int .i64 x.f1.f0, .int .i64 x.f1.f1] 37))
            have HOx := Sd.mk (Kd.N_alloc HO.out (.cells #[.slice Ax x.f0.length cx, .int .i64 x.f1.f0, .int .i64 x.f1.f1] 37))
            have HNx := Sd.mk (show some wo.heap.size ≠ u6.ownBlock from fun e => Nat.lt_irrefl _ (Kd.N_lt HO.out _ e.symm))
            have Hbx := Sd.mk (show w3.heap.size ≤ wo.heap.size from HW.out.size)
            go_wp2
            generalize hout : pairsJ op (p.take i) q = out0 at HO HPst HoL HOx
            clear hout
            go_loopw [6, 45] (fun v6 v45 wr2 => ∃ j : Nat, j ≤ q.length ∧ v45 = .int .i64 j ∧ Sd (Kd.N k37 37 wr2 w3.heap.size (fun _ => True) v6 (out0 ++ rowJ op x (q.take j))) ∧ Sd (Below w3.heap.size w3 wr2) ∧ Sd (wr2.heap[wo.heap.size]? = some (.cells #[.slice Ax x.f0.length cx, .int .i64 x.f1.f0, .int .i64 x.f1.f1] 37 (0, 0))) ∧ Sd (some wo.heap.size ≠ v6.ownBlock)) (fun _ v45 _ => q.length - (intOf v45).toNat)
            case atStart => exact ⟨0, Nat.zero_le _, rfl, ⟨by simpa [rowJ] using HOx.out⟩, HWx, HX, HNx⟩
            case round =>
              clear HOx HWx HX HNx
              obtain ⟨j, hj, rfl, HO2, HW2, HX2, HN2⟩ := hrel
              by_cases hlj : j < q.length
              · have b2 : (j : Int) < (q.length : Int) := by omega
                obtain ⟨gb, Ay, cy, hBe, y0, y1, y2, hFy⟩ := read_at (N_under HPb.out HW2.out) j hlj
                subst hBe
                have HRs := Sd.mk (rowJ_step op x q j hlj)
                have HyS := Sd.mk (HQs.out _ (List.getElem_mem hlj))
                have HLen := Sd.mk (show ((out0 ++ rowJ op x (q.take j)).length + 1) * 40 ≤ 140737488355328 by
                  have e1 := rowJ_len op x (q.take j)
                  have e2 : (q.take j).length ≤ 200 := by rw [List.length_take]; omega
                  have e3 := HoL.out
                  have e4 : 200 * q.length ≤ 200 * 200 := Nat.mul_le_mul (Nat.le_refl _) lq
                  rw [List.length_append]; omega)
                generalize q[j] = y at y0 y1 y2 hFy HRs HyS
                have HY := Sd.mk (below1 wr (.cells #[.slice Ay y.f0.length cy, .int .i64 y.f1.f0, .int .i64 y.f1.f1] 37))
                have HCy := Sd.mk (Kd.C_below (Kd.F_now hFy) HY.out)
                have HCx := Sd.mk (Kd.C_below (Kd.F_now (Kd.F_step HFx.out (fun k hk _ => (HW2.out.block k hk.1).trans (HW.out.block k hk.1).symm))) HY.out)
                have YB := blk_new wr (.cells #[.slice Ay y.f0.length cy, .int .i64 y.f1.f0, .int .i64 y.f1.f1] 37)
                have g0 := (blk_cell YB 0).trans rfl
                have g1 := (blk_cell YB 1).trans rfl
                have g2 := (blk_cell YB 2).trans rfl
                have c0 := (blk_cell (blk_below HX2.out HY.out) 0).trans rfl
                have c1 := (blk_cell (blk_below HX2.out HY.out) 1).trans rfl
                have c2 := (blk_cell (blk_below HX2.out HY.out) 2).trans rfl
                clear YB hFy
                have HOY := Sd.mk (Kd.N_below HO2.out HY.out)
                have HWY := Sd.mk (HW2.out.trans (HY.out.mono HW2.out.size))
                have HI1 := Sd.mk (fun (w5 : World) (h : Below (wr.alloc (.cells #[.slice Ay y.f0.length cy, .int .i64 y.f1.f0, .int .i64 y.f1.f1] 37)).heap.size (wr.alloc (.cells #[.slice Ay y.f0.length cy, .int .i64 y.f1.f0, .int .i64 y.f1.f1] 37)) w5) => within_calls Ax Ay cx cy x.f0 y.f0 w5 (Kd.C_below HCx.out h) (Kd.C_below HCy.out h))
                have HI2 := Sd.mk (fun (w5 : World) (h : Below (wr.alloc (.cells #[.slice Ay y.f0.length cy, .int .i64 y.f1.f0, .int .i64 y.f1.f1] 37)).heap.size (wr.alloc (.cells #[.slice Ay y.f0.length cy, .int .i64 y.f1.f0, .int .i64 y.f1.f1] 37)) w5) => within_calls Ay Ax cy cx y.f0 x.f0 w5 (Kd.C_below HCy.out h) (Kd.C_below HCx.out h))
                unfold fits at HRs
                generalize inC x.f0 y.f0 = k1 at HRs HI1
                generalize inC y.f0 x.f0 = k2 at HRs HI2
                cases k1 with
                | true =>
                  have HRt := Sd.mk (HRs.out.trans (by rfl : (rowJ op x (List.take j q) ++ (if (true || k2) = true then [joinS op x y] else [])) = rowJ op x (List.take j q) ++ [joinS op x y]))
                  go_wp2_with fail
                  refine (HI1.out _ (Below.refl _ _)).mono ?_
                  rintro e w6 ⟨rfl, hb6⟩
                  have HB6 := Sd.mk hb6
                  replace c0 := pw_cell_below hb6 c0
                  replace c1 := pw_cell_below hb6 c1
                  replace c2 := pw_cell_below hb6 c2
                  replace g0 := pw_cell_below hb6 g0
                  replace g1 := pw_cell_below hb6 g1
                  replace g2 := pw_cell_below hb6 g2
                  clear hb6 HI1 HI2 HRs
                  have HO6 := Sd.mk (Kd.N_below HO2.out (HY.out.trans (HB6.out.mono HY.out.size)))
                  go_wp2_with fail
                  refine (ljoin_calls Ax Ay cx cy x.f0 y.f0 (set_ok HxS.out).1 (set_ok HyS.out).1 (by have := (set_ok HxS.out).2; have := (set_ok HyS.out).2; omega) w6 (Kd.C_below HCx.out HB6.out) (Kd.C_below HCy.out HB6.out)).mono ?_
                  rintro e w7 ⟨vj, rfl, hvj, hb7⟩
                  obtain ⟨Aj, cj, rfl, hcj, hrd⟩ := Kd.R_reads hvj
                  clear hrd
                  have HVj := Sd.mk (Kd.R_mono (Kd.R_bound hvj) (ok' := fun k => w6.heap.size ≤ k) (fun k hk => hk.2.1))
                  have HB7 := Sd.mk (HB6.out.trans (hb7.mono HB6.out.size))
                  have Hcj := Sd.mk hcj
                  have HN6 := Sd.mk (fun k (hk : w6.heap.size ≤ k) => And.intro True.intro (fun (e : some k = u6.ownBlock) => Nat.lt_irrefl _ (Nat.lt_of_lt_of_le (Kd.N_lt HO6.out k e.symm) hk)))
                  replace c0 := pw_cell_below hb7 c0
                  replace c1 := pw_cell_below hb7 c1
                  replace c2 := pw_cell_below hb7 c2
                  replace g0 := pw_cell_below hb7 g0
                  replace g1 := pw_cell_below hb7 g1
                  replace g2 := pw_cell_below hb7 g2
                  clear hvj hb7 hcj HO6
                  have HR2 := Sd.mk (HRt.out.trans (congrArg (fun z => rowJ op x (List.take j q) ++ [z]) (show joinS op x y = ⟨(vJoinL x.f0 y.f0).1, ⟨(vDo op [(x.f1.f0, x.f1.f1), (y.f1.f0, y.f1.f1)]).1.1, (vDo op [(x.f1.f0, x.f1.f1), (y.f1.f0, y.f1.f1)]).1.2⟩⟩ from rfl)))
                  rcases hdo : vDo op [(x.f1.f0, x.f1.f1), (y.f1.f0, y.f1.f1)] with ⟨⟨r1, r2⟩, r3⟩
                  have HD := Sd.mk (do2_any op x.f1.f0 x.f1.f1 y.f1.f0 y.f1.f1 w7 hdo)
                  rw [hdo] at HR2
                  clear hdo
                  generalize hjr : vJoinL x.f0 y.f0 = jr at HVj Hcj HR2 ⊢
                  obtain ⟨jl, jb⟩ := jr
                  simp only at HVj Hcj HR2 ⊢
                  clear hjr
                  go_wp2_with fail
                  refine HD.out.mono ?_
                  rintro e w8 ⟨rfl, hb8⟩
                  have HB8 := Sd.mk (HB7.out.trans ((hb8.mono (Nat.le_refl _)).mono HB7.out.size))
                  have hba := bal hb8 (.cells #[.int .i64 r1, .int .i64 r2] 25)
                  have hbb := bal HB8.out (.cells #[.int .i64 r1, .int .i64 r2] 25)
                  have HVW := Sd.mk (Kd.R_below HVj.out hba)
                  have HOW := Sd.mk (Kd.N_below HO2.out (HY.out.trans (hbb.mono HY.out.size)))
                  have HWW := Sd.mk (HW2.out.trans ((HY.out.trans (hbb.mono HY.out.size)).mono HW2.out.size))
                  have HXW := Sd.mk (blk_below HX2.out (HY.out.trans (hbb.mono HY.out.size)))
                  clear hb8 hba hbb c0 c1 c2 g0 g1 g2
                  go_wp2_with ((with_reducible refine gate_builtin (b := .append) (xs := #[.tmp 81, .tmp 85]) rfl ?_); at_builtin; refine Kd.N_append k37 (w0 := w3) w3.heap.size rfl (.tmp 81) (.tmp 85) 33 37 (.agg #[(.slice none 0 0), (.int .i64 0), (.int .i64 0)]) 40 rfl Tryz.underlying33 info37 rfl (by decide) (by omega) u6 (out0 ++ rowJ op x (List.take j q)) (⟨jl, ⟨r1, r2⟩⟩ : Ser) [.slice Aj jl.length cj, .int .i64 r1, .int .i64 r2] (fun _ => True) (fun k => w6.heap.size ≤ k) rfl ?aX ?aP ?aK ?aF ?aO ?aB ?aS ?aL ?_; (case aX => first | rfl | (go_simp; done)); (case aP => exact FK_new (Kd.R_F HVW.out) Hcj.out); (case aK => exact HN6.out); (case aF => exact (fun _ _ => trivial)); (case aO => exact HOW.out); (case aB => exact HWW.out); (case aS => exact HWW.out.size); (case aL => exact HLen.out); intro v7 w9 ho hb9 hg9 hat9; have HO9 := Sd.mk ho; have HW9 := Sd.mk hb9; have HX9 := Sd.mk ((hg9.block _ (Array.getElem?_eq_some_iff.1 HXW.out).1 HN2.out).trans HXW.out); have HN9 := Sd.mk (own_ne hat9 HN2.out (Array.getElem?_eq_some_iff.1 HXW.out).1); clear ho hb9 hg9 hat9)
                  go_roundw
                  case rel => exact ⟨j + 1, by omega, by go_num, ⟨by rw [HR2.out, ← List.append_assoc]; exact HO9.out⟩, HW9, HX9, HN9⟩
                  case measure => simp [intOf]; omega
                | false =>
                  cases k2 with
                  | true =>
                    have HRt := Sd.mk (HRs.out.trans (by rfl : (rowJ op x (List.take j q) ++ (if (false || true) = true then [joinS op x y] else [])) = rowJ op x (List.take j q) ++ [joinS op x y]))
                    go_wp2_with fail
                    refine (HI1.out _ (Below.refl _ _)).mono ?_
                    rintro e w5 ⟨rfl, hb5⟩
                    have HB5 := Sd.mk hb5
                    have HC5 := Sd.mk (HI2.out w5 hb5)
                    replace c0 := pw_cell_below hb5 c0
                    replace c1 := pw_cell_below hb5 c1
                    replace c2 := pw_cell_below hb5 c2
                    replace g0 := pw_cell_below hb5 g0
                    replace g1 := pw_cell_below hb5 g1
                    replace g2 := pw_cell_below hb5 g2
                    clear hb5 HI1 HI2 HRs
                    go_wp2_with fail
                    refine HC5.out.mono ?_
                    rintro e w6 ⟨rfl, hb6⟩
                    have HB6 := Sd.mk (HB5.out.trans (hb6.mono HB5.out.size))
                    replace c0 := pw_cell_below hb6 c0
                    replace c1 := pw_cell_below hb6 c1
                    replace c2 := pw_cell_below hb6 c2
                    replace g0 := pw_cell_below hb6 g0
                    replace g1 := pw_cell_below hb6 g1
                    replace g2 := pw_cell_below hb6 g2
                    clear hb6 HC5 HB5
                    have HO6 := Sd.mk (Kd.N_below HO2.out (HY.out.trans (HB6.out.mono HY.out.size)))
                    go_wp2_with fail
                    refine (ljoin_calls Ax Ay cx cy x.f0 y.f0 (set_ok HxS.out).1 (set_ok HyS.out).1 (by have := (set_ok HxS.out).2; have := (set_ok HyS.out).2; omega) w6 (Kd.C_below HCx.out HB6.out) (Kd.C_below HCy.out HB6.out)).mono ?_
                    rintro e w7 ⟨vj, rfl, hvj, hb7⟩
                    obtain ⟨Aj, cj, rfl, hcj, hrd⟩ := Kd.R_reads hvj
                    clear hrd
                    have HVj := Sd.mk (Kd.R_mono (Kd.R_bound hvj) (ok' := fun k => w6.heap.size ≤ k) (fun k hk => hk.2.1))
                    have HB7 := Sd.mk (HB6.out.trans (hb7.mono HB6.out.size))
                    have Hcj := Sd.mk hcj
                    have HN6 := Sd.mk (fun k (hk : w6.heap.size ≤ k) => And.intro True.intro (fun (e : some k = u6.ownBlock) => Nat.lt_irrefl _ (Nat.lt_of_lt_of_le (Kd.N_lt HO6.out k e.symm) hk)))
                    replace c0 := pw_cell_below hb7 c0
                    replace c1 := pw_cell_below hb7 c1
                    replace c2 := pw_cell_below hb7 c2
                    replace g0 := pw_cell_below hb7 g0
                    replace g1 := pw_cell_below hb7 g1
                    replace g2 := pw_cell_below hb7 g2
                    clear hvj hb7 hcj HO6
                    have HR2 := Sd.mk (HRt.out.trans (congrArg (fun z => rowJ op x (List.take j q) ++ [z]) (show joinS op x y = ⟨(vJoinL x.f0 y.f0).1, ⟨(vDo op [(x.f1.f0, x.f1.f1), (y.f1.f0, y.f1.f1)]).1.1, (vDo op [(x.f1.f0, x.f1.f1), (y.f1.f0, y.f1.f1)]).1.2⟩⟩ from rfl)))
                    rcases hdo : vDo op [(x.f1.f0, x.f1.f1), (y.f1.f0, y.f1.f1)] with ⟨⟨r1, r2⟩, r3⟩
                    have HD := Sd.mk (do2_any op x.f1.f0 x.f1.f1 y.f1.f0 y.f1.f1 w7 hdo)
                    rw [hdo] at HR2
                    clear hdo
                    generalize hjr : vJoinL x.f0 y.f0 = jr at HVj Hcj HR2 ⊢
                    obtain ⟨jl, jb⟩ := jr
                    simp only at HVj Hcj HR2 ⊢
                    clear hjr
                    go_wp2_with fail
                    refine HD.out.mono ?_
                    rintro e w8 ⟨rfl, hb8⟩
                    have HB8 := Sd.mk (HB7.out.trans ((hb8.mono (Nat.le_refl _)).mono HB7.out.size))
                    have hba := bal hb8 (.cells #[.int .i64 r1, .int .i64 r2] 25)
                    have hbb := bal HB8.out (.cells #[.int .i64 r1, .int .i64 r2] 25)
                    have HVW := Sd.mk (Kd.R_below HVj.out hba)
                    have HOW := Sd.mk (Kd.N_below HO2.out (HY.out.trans (hbb.mono HY.out.size)))
                    have HWW := Sd.mk (HW2.out.trans ((HY.out.trans (hbb.mono HY.out.size)).mono HW2.out.size))
                    have HXW := Sd.mk (blk_below HX2.out (HY.out.trans (hbb.mono HY.out.size)))
                    clear hb8 hba hbb c0 c1 c2 g0 g1 g2
                    go_wp2_with ((with_reducible refine gate_builtin (b := .append) (xs := #[.tmp 81, .tmp 85]) rfl ?_); at_builtin; refine Kd.N_append k37 (w0 := w3) w3.heap.size rfl (.tmp 81) (.tmp 85) 33 37 (.agg #[(.slice none 0 0), (.int .i64 0), (.int .i64 0)]) 40 rfl Tryz.underlying33 info37 rfl (by decide) (by omega) u6 (out0 ++ rowJ op x (List.take j q)) (⟨jl, ⟨r1, r2⟩⟩ : Ser) [.slice Aj jl.length cj, .int .i64 r1, .int .i64 r2] (fun _ => True) (fun k => w6.heap.size ≤ k) rfl ?aX ?aP ?aK ?aF ?aO ?aB ?aS ?aL ?_; (case aX => first | rfl | (go_simp; done)); (case aP => exact FK_new (Kd.R_F HVW.out) Hcj.out); (case aK => exact HN6.out); (case aF => exact (fun _ _ => trivial)); (case aO => exact HOW.out); (case aB => exact HWW.out); (case aS => exact HWW.out.size); (case aL => exact HLen.out); intro v7 w9 ho hb9 hg9 hat9; have HO9 := Sd.mk ho; have HW9 := Sd.mk hb9; have HX9 := Sd.mk ((hg9.block _ (Array.getElem?_eq_some_iff.1 HXW.out).1 HN2.out).trans HXW.out); have HN9 := Sd.mk (own_ne hat9 HN2.out (Array.getElem?_eq_some_iff.1 HXW.out).1); clear ho hb9 hg9 hat9)
                    go_roundw
                    case rel => exact ⟨j + 1, by omega, by go_num, ⟨by rw [HR2.out, ← List.append_assoc]; exact HO9.out⟩, HW9, HX9, HN9⟩
                    case measure => simp [intOf]; omega
                  | false =>
                    have HRt := Sd.mk (HRs.out.trans (by exact List.append_nil _ : (rowJ op x (List.take j q) ++ (if (false || false) = true then [joinS op x y] else [])) = rowJ op x (List.take j q)))
                    go_wp2_with fail
                    refine (HI1.out _ (Below.refl _ _)).mono ?_
                    rintro e w5 ⟨rfl, hb5⟩
                    have HB5 := Sd.mk hb5
                    have HC5 := Sd.mk (HI2.out w5 hb5)
                    replace c0 := pw_cell_below hb5 c0
                    replace c1 := pw_cell_below hb5 c1
                    replace c2 := pw_cell_below hb5 c2
                    replace g0 := pw_cell_below hb5 g0
                    replace g1 := pw_cell_below hb5 g1
                    replace g2 := pw_cell_below hb5 g2
                    clear hb5 HI1 HI2 HRs
                    go_wp2_with fail
                    refine HC5.out.mono ?_
                    rintro e w6 ⟨rfl, hb6⟩
                    have hb7 := HY.out.trans ((HB5.out.trans (hb6.mono HB5.out.size)).mono HY.out.size)
                    have HO6 := Sd.mk (Kd.N_below HO2.out hb7)
                    have HW6 := Sd.mk (HW2.out.trans (hb7.mono HW2.out.size))
                    have HX6 := Sd.mk (blk_below HX2.out hb7)
                    clear hb6 hb7 HC5 HB5 c0 c1 c2 g0 g1 g2
                    go_wp2
                    go_roundw
                    case rel => exact ⟨j + 1, by omega, by go_num, ⟨by rw [HRt.out]; exact HO6.out⟩, HW6, HX6, HN2⟩
                    case measure => simp [intOf]; omega
              · have m1 : decide ((j : Int) < (q.length : Int)) = false := decide_eq_false (by omega)
                have m2 : decide (j < q.length) = false := decide_eq_false hlj
                have hj' : j = q.length := by omega
                have HE := Sd.mk (show pairsJ op (p.take (i + 1)) q = out0 ++ rowJ op x (q.take j) by rw [HPst.out, hj', List.take_length])
                clear hj' hlj hj
                go_wp2
                go_roundw
                case rel => exact ⟨i + 1, by omega, by go_num, ⟨by rw [HE.out]; exact HO2.out⟩, HW2⟩
                case measure => simp [intOf]; omega
          · have n1 : decide ((i : Int) < (p.length : Int)) = false := decide_eq_false (by omega)
            have n2 : decide (i < p.length) = false := decide_eq_false hlt
            have hi' : i = p.length := by omega
            have HE := Sd.mk (show pairsJ op (p.take i) q = pairsJ op p q by rw [hi', List.take_length])
            rw [HE.out] at HO
            obtain ⟨A6, c6, rfl, _, hC6⟩ := Kd.N_reads HO.out
            have HS := Sd.mk (ssort_calls A6 c6 (pairsJ op p q) HOK.out wo hC6)
            rcases hsr : vSort (pairsJ op p q) with ⟨sl, se⟩
            rw [hsr] at HS
            have HSR := Sd.mk hsr
            clear hsr
            clear hi' hlt hi hC6 HE HO
            go_wp2_with fail
            refine HS.out.mono ?_
            rintro e w9 ⟨v9, rfl, hv9, hb9⟩
            have hw3 := HB3.out.size
            have HV9 := Sd.mk (Kd.N_lower hv9 (Nat.le_trans hw3 HW.out.size))
            have HB9 := Sd.mk (HB3.out.trans ((HW.out.trans (hb9.mono HW.out.size)).mono hw3))
            clear hv9 hb9 hw3
            go_wp2
            go_ret2
            exact ⟨v9, by rw [HSR.out]; rfl, by rw [HSR.out]; exact HV9.out, HB9.out⟩
      · rw [if_neg hk]
        rw [decide_eq_false hk] at HK
        clear hk HMa HMb
        go_enter Tryz.func19, Tryz.ntmps19
        go_wp2_with fail
        refine HSa.out.mono ?_
        rintro e w1 ⟨va, rfl, hva, hb1⟩
        have HB1 := Sd.mk hb1
        have HSb1 := Sd.mk (HSb.out w1 hb1)
        clear hva hb1 HSb HSa
        go_wp2_with fail
        refine HSb1.out.mono ?_
        rintro e w2 ⟨vb, rfl, hvb, hb2⟩
        have HB2 := Sd.mk (HB1.out.trans (hb2.mono HB1.out.size))
        clear hvb hb2 HB1 HSb1
        go_wp2_with fail
        refine (HK.out w2).mono ?_
        rintro e w3 ⟨rfl, hb3⟩
        have HB3 := Sd.mk (HB2.out.trans (hb3.mono HB2.out.size))
        clear hb3
        go_wp2
        go_ret2
        exact ⟨.slice none 0 0, rfl, Kd.N_nil _ _ _ _ _, HB3.out⟩
    · rw [if_neg h2]
      have n0 : (e2 == 0) = false := by simpa using h2
      have n1 : (e2 != 0) = true := by simpa using h2
      clear h2 HMa HMb HK
      go_enter Tryz.func19, Tryz.ntmps19
      go_wp2_with fail
      refine HSa.out.mono ?_
      rintro e w1 ⟨va, rfl, hva, hb1⟩
      have HB1 := Sd.mk hb1
      have HSb1 := Sd.mk (HSb.out w1 hb1)
      clear hva hb1 HSb HSa
      go_wp2_with fail
      refine HSb1.out.mono ?_
      rintro e w2 ⟨vb, rfl, hvb, hb2⟩
      have HB2 := Sd.mk (HB1.out.trans (hb2.mono HB1.out.size))
      clear hvb hb2 HB1 HSb1
      go_wp2
      go_ret2
      exact ⟨.slice none 0 0, rfl, Kd.N_nil _ _ _ _ _, HB2.out⟩
  · rw [if_neg h1]
    have n0 : (e1 == 0) = false := by simpa using h1
    have n1 : (e1 != 0) = true := by simpa using h1
    clear h1 HMa HMb HK HSb
    go_enter Tryz.func19, Tryz.ntmps19
    go_wp2_with fail
    refine HSa.out.mono ?_
    rintro e w1 ⟨va, rfl, hva, hb1⟩
    have HB1 := Sd.mk hb1
    clear hva hb1 HSa
    go_wp2
    go_ret2
    exact ⟨.slice none 0 0, rfl, Kd.N_nil _ _ _ _ _, HB1.out⟩
attribute [local go_sem] max2_int min2_int max_two min_two max_three min_three max_four min_four   -- for this text's walks alone
def r8_Null.f  : Option (Int × Int) := some (2, 0)
theorem r8_Null.calls  (r1 : Int) (r2 : Int) (w : World) (h : r8_Null.f  = some (r1, r2)) :
  Calls Tryz.prog 28 #[] w fun e w' => e = .returned (.agg #[.int .i64 r1, .int .i64 r2]) ∧ Below w.heap.size w w' := by
 have hu25 := Tryz.underlying25
 have HB := Sd.mk (Below.refl w.heap.size w)
 have H : (some (2, 0)) = some (r1, r2) := h
 clear h
 simp only [Option.some.injEq, Prod.mk.injEq] at H
 obtain ⟨rfl, rfl⟩ := H
 go_enter Tryz.func28, Tryz.ntmps28
 go_wp2_with (first | ((with_reducible refine gate_dst (N := 0) rfl ?_); refine bxe (N := 0) (cs := #[.int .i64 0, .int .i64 0]) (t := 25) ?_; intro gb266 hg w1 hbox hb; have BK266 := Sd.mk hbox; have GW266 := bge w hg; have GE266 := bge w hg; replace HB := bsq w hb; clear hb hbox hg; have hcz2_0 := bz0 BK266; have hcz2_1 := bz1 BK266; have hfz2_0 := blk_frozen BK266.out 0; have hfz2_1 := blk_frozen BK266.out 1))
 refine bodyPost_ret (results_cell_row rfl _ _ gb266 25 #[.int .i64 2, .int .i64 0] (0, 0) _ rfl (by (repeat refine dw ?_); refine blk_put (cs := #[.int .i64 2, .int .i64 0]) ?_ 1 _ rfl; (repeat refine dw ?_); refine blk_put (cs := #[.int .i64 0, .int .i64 0]) ?_ 0 _ rfl; (repeat refine dw ?_); exact BK266.out) Tryz.underlying25 rfl (by kernel_rfl)) rfl ?_
 exact ⟨fe, bbl⟩
def r8_NaN.f  : Option (Int × Int) := some (3, 0)
theorem r8_NaN.calls  (r1 : Int) (r2 : Int) (w : World) (h : r8_NaN.f  = some (r1, r2)) :
  Calls Tryz.prog 29 #[] w fun e w' => e = .returned (.agg #[.int .i64 r1, .int .i64 r2]) ∧ Below w.heap.size w w' := by
 have hu25 := Tryz.underlying25
 have HB := Sd.mk (Below.refl w.heap.size w)
 have H : (some (3, 0)) = some (r1, r2) := h
 clear h
 simp only [Option.some.injEq, Prod.mk.injEq] at H
 obtain ⟨rfl, rfl⟩ := H
 go_enter Tryz.func29, Tryz.ntmps29
 go_wp2_with (first | ((with_reducible refine gate_dst (N := 0) rfl ?_); refine bxe (N := 0) (cs := #[.int .i64 0, .int .i64 0]) (t := 25) ?_; intro gb267 hg w1 hbox hb; have BK267 := Sd.mk hbox; have GW267 := bge w hg; have GE267 := bge w hg; replace HB := bsq w hb; clear hb hbox hg; have hcz2_0 := bz0 BK267; have hcz2_1 := bz1 BK267; have hfz2_0 := blk_frozen BK267.out 0; have hfz2_1 := blk_frozen BK267.out 1))
 refine bodyPost_ret (results_cell_row rfl _ _ gb267 25 #[.int .i64 3, .int .i64 0] (0, 0) _ rfl (by (repeat refine dw ?_); refine blk_put (cs := #[.int .i64 3, .int .i64 0]) ?_ 1 _ rfl; (repeat refine dw ?_); refine blk_put (cs := #[.int .i64 0, .int .i64 0]) ?_ 0 _ rfl; (repeat refine dw ?_); exact BK267.out) Tryz.underlying25 rfl (by kernel_rfl)) rfl ?_
 exact ⟨fe, bbl⟩
/-- Blocks that stand: what each holds, of what type. -/
structure Bk (w : World) (L : List (Nat × Array Value × TypeId)) (w1 : World) : Prop where
  b : Below w.heap.size w w1
  r : ∀ x ∈ L, w1.heap[x.1]? = some (.cells x.2.1 x.2.2 (0, 0))
theorem Bk.start (w : World) : Bk w [] w := ⟨Below.refl _ _, fun x h => by cases h⟩
theorem Bk.below {w w1 w2 : World} {L : List (Nat × Array Value × TypeId)} (h : Bk w L w1) (hb : Below w1.heap.size w1 w2) : Bk w L w2 :=
  ⟨h.b.trans (hb.mono h.b.size), fun x hx => blk_below (h.r x hx) hb⟩
theorem Bk.push {w w1 : World} {L : List (Nat × Array Value × TypeId)} (h : Bk w L w1) (cs : Array Value) (t : TypeId) : Bk w ((w1.heap.size, cs, t) :: L) (w1.alloc (.cells cs t)) :=
  ⟨(h.below (below1 w1 _)).b, fun x hx => by
    rcases List.mem_cons.1 hx with rfl | hx
    · exact blk_new w1 _
    · exact (h.below (below1 w1 _)).r x hx⟩
theorem Bk.get {w w1 : World} {L : List (Nat × Array Value × TypeId)} (h : Bk w L w1) {n : Nat} {cs : Array Value} {t : TypeId} (hx : (n, cs, t) ∈ L) : w1.heap[n]? = some (.cells cs t (0, 0)) := h.r _ hx
theorem Bk.cell {w w1 : World} {L : List (Nat × Array Value × TypeId)} (h : Bk w L w1) {n : Nat} {cs : Array Value} {t : TypeId} (hx : (n, cs, t) ∈ L) {i : Nat} {u : Value} (hu : cs[i]? = some u) : w1.cell? ⟨n, i, none⟩ = some u := (blk_cell (h.r _ hx) i).trans hu
theorem flat_get {α : Type} (sz : Nat) : ∀ (xs : List (α × List Value)) (j : Nat) (p : α × List Value), (∀ q ∈ xs, q.2.length = sz) → xs[j]? = some p → ∀ i u, p.2[i]? = some u → (xs.flatMap (·.2))[j * sz + i]? = some u
  | [], j, p, _, h, _, _, _ => by simp at h
  | q :: xs, 0, p, hs, h, i, u, hu => by
    simp only [List.getElem?_cons_zero, Option.some.injEq] at h
    subst h
    rw [List.flatMap_cons, Nat.zero_mul, Nat.zero_add, List.getElem?_append_left (List.getElem?_eq_some_iff.1 hu).1]
    exact hu
  | q :: xs, j + 1, p, hs, h, i, u, hu => by
    simp only [List.getElem?_cons_succ] at h
    have ih := flat_get sz xs j p (fun r hr => hs r (List.mem_cons_of_mem _ hr)) h i u hu
    have hl := hs q List.mem_cons_self
    rw [List.flatMap_cons, List.getElem?_append_right (by rw [hl, Nat.add_mul]; omega)]
    rw [show (j + 1) * sz + i - q.2.length = j * sz + i by rw [hl, Nat.add_mul]; omega]
    exact ih
/-- A row whose cells stand in a block: what they read as. -/
theorem row_of {α : Type} (d : Kd α) {W : World} {g : Nat} {t : TypeId} (xs : List (α × List Value)) (hk : ∀ q ∈ xs, d.K W q.1 q.2) (hm : xs.length ≤ 9223372036854775807) (h : W.heap[g]? = some (.cells (xs.flatMap (·.2)).toArray t (0, 0))) : Kd.C d W (some ⟨g, 0, none⟩) xs.length (xs.map (·.1)) := by
  refine ⟨by simp, hm, fun _ => ⟨_, rfl, fun j p hp => ?_⟩⟩
  rw [List.getElem?_map] at hp
  obtain ⟨q, hq, rfl⟩ := Option.map_eq_some_iff.1 hp
  have hmem := List.mem_of_getElem? hq
  refine ⟨q.2, d.K_len (hk q hmem), hk q hmem, fun i u hu => ?_⟩
  rw [add_at, Nat.zero_add, blk_cell h]
  rw [List.getElem?_toArray]
  exact flat_get d.sz xs j q (fun r hr => d.K_len (hk r hr)) hq i u hu
theorem rnum_calls (n : Int) (h0 : -1000000000000000 ≤ n) (h1 : n ≤ 1000000000000000) (w : World) : Calls Tryz.prog 27 #[.int .i64 n] w fun e w' => e = .returned (.agg #[.int .i64 1, .int .i64 n]) ∧ Below w.heap.size w w' :=
  r8_Num.calls n 1 n w (by unfold r8_Num.f; rw [if_neg (by omega), if_neg (by omega)])
theorem rnull_calls (w : World) : Calls Tryz.prog 28 #[] w fun e w' => e = .returned (.agg #[.int .i64 2, .int .i64 0]) ∧ Below w.heap.size w w' := r8_Null.calls 2 0 w rfl
theorem rnan_calls (w : World) : Calls Tryz.prog 29 #[] w fun e w' => e = .returned (.agg #[.int .i64 3, .int .i64 0]) ∧ Below w.heap.size w w' := r8_NaN.calls 3 0 w rfl
/-- The document's 'same' of two that are. -/
theorem same_calls (A B : Option Addr) (c d : Nat) (l : List Ser) (hl : SersOk l) (w : World) (hA : Kd.C k37 w A l.length l) (hc : l.length ≤ c) (hB : Kd.C k37 w B l.length l) (hd : l.length ≤ d) :
    Calls Tryz.prog 16 #[.slice A l.length c, .slice B l.length d] w fun e w' => e = .returned (.bool true) ∧ Below w.heap.size w w' := by
  obtain ⟨k, hk⟩ := (sameS_ev l hl).rounds
  refine (r10_Same.calls k A c l B d l true w hA hc hB hd hk).mono fun e w' ⟨he, hw⟩ => ⟨he, ?_⟩
  obtain ⟨n, rfl⟩ := hw
  exact pbd (Below.refl _ _) n
abbrev liveP : List Pt := [⟨0, ⟨1, 1000⟩⟩, ⟨0, ⟨1, 2000⟩⟩, ⟨0, ⟨2, 0⟩⟩]
abbrev lx : List Lab := [⟨⟨#[97]⟩, ⟨#[49]⟩⟩]
abbrev ly : List Lab := [⟨⟨#[97]⟩, ⟨#[49]⟩⟩, ⟨⟨#[98]⟩, ⟨#[49]⟩⟩]
abbrev lz : List Lab := [⟨⟨#[97]⟩, ⟨#[50]⟩⟩]
abbrev sx : Ser := ⟨lx, ⟨1, 1⟩⟩
abbrev sz : Ser := ⟨lz, ⟨1, 2⟩⟩
abbrev sy : Ser := ⟨ly, ⟨1, 10⟩⟩
abbrev sj : Ser := ⟨ly, ⟨1, 11⟩⟩
theorem live_r1 : vReduce ⟨#[109, 101, 97, 110]⟩ false liveP = ((1, 1500), 0) := by kernel_rfl
theorem live_r2 : vReduce ⟨#[109, 101, 97, 110]⟩ true liveP = ((3, 0), 0) := by kernel_rfl
theorem live_r3 : vReduce ⟨#[110, 111, 110, 101]⟩ false [] = ((0, 0), 100) := by kernel_rfl
theorem set_lx : isSet lx = true := by kernel_rfl
theorem set_ly : isSet ly = true := by kernel_rfl
theorem set_lz : isSet lz = true := by kernel_rfl
theorem isV_small (n : Int) (h0 : 0 ≤ n) (h1 : n ≤ 100) : isV ((1 : Int), n) := .inl ⟨rfl, by show (-1000000000000000 : Int) ≤ n; omega, by show n ≤ (1000000000000000 : Int); omega⟩
theorem live_s1 : vSort [sx, sz] = ([sx, sz], 0) := vSort_strict (fun x hx => by
  rcases List.mem_cons.1 hx with rfl | hx
  · exact set_lx
  · rw [List.mem_singleton.1 hx]; exact set_lz) (fun x hx => by
  rcases List.mem_cons.1 hx with rfl | hx
  · exact isV_small 1 (by omega) (by omega)
  · rw [List.mem_singleton.1 hx]; exact isV_small 2 (by omega) (by omega)) (by
  refine List.pairwise_cons.2 ⟨fun y hy => ?_, List.pairwise_singleton _ _⟩
  rw [List.mem_singleton.1 hy]
  have e : cmpSer sx sz = -1 := by kernel_rfl
  omega) (by decide)
theorem live_s2 : vSort [sy] = ([sy], 0) := vSort_strict (fun x hx => by rw [List.mem_singleton.1 hx]; exact set_ly) (fun x hx => by rw [List.mem_singleton.1 hx]; exact isV_small 10 (by omega) (by omega)) (List.pairwise_singleton _ _) (by decide)
theorem live_s3 : vSort [sj] = ([sj], 0) := vSort_strict (fun x hx => by rw [List.mem_singleton.1 hx]; exact set_ly) (fun x hx => by rw [List.mem_singleton.1 hx]; exact isV_small 11 (by omega) (by omega)) (List.pairwise_singleton _ _) (by decide)
theorem live_j : vJoin ⟨#[43]⟩ [sx, sz] [sy] = ([sj], 0) := by
  have e1 : (vDo ⟨#[43]⟩ [(1, 0), (1, 0)]).2 = 0 := by kernel_rfl
  have f1 : fits sx sy = true := by kernel_rfl
  have f2 : fits sz sy = false := by kernel_rfl
  have hd : vDo ⟨#[43]⟩ [((1 : Int), (1 : Int)), (1, 10)] = ((1, 11), 0) := by kernel_rfl
  have hp : pairsJ ⟨#[43]⟩ [sx, sz] [sy] = [sj] := by
    have r1 : rowJ ⟨#[43]⟩ sx [sy] = [sj] := by
      unfold rowJ
      rw [List.filter_cons_of_pos f1, List.filter_nil, List.map_cons, List.map_nil]
      have h0 := joinS_labels (op := ⟨#[43]⟩) (x := sx) (y := sy) set_lx set_ly f1
      rw [if_pos (by decide)] at h0
      have h1 : (joinS ⟨#[43]⟩ sx sy).f1 = ⟨1, 11⟩ := by unfold joinS; simp only [hd]
      have e : joinS ⟨#[43]⟩ sx sy = ⟨(joinS ⟨#[43]⟩ sx sy).f0, (joinS ⟨#[43]⟩ sx sy).f1⟩ := rfl
      rw [e, h0, h1]
    have r2 : rowJ ⟨#[43]⟩ sz [sy] = [] := by
      unfold rowJ
      rw [List.filter_cons_of_neg (by rw [f2]; simp), List.filter_nil, List.map_nil]
    unfold pairsJ
    rw [List.flatMap_cons, List.flatMap_cons, List.flatMap_nil, r1, r2]; rfl
  unfold vJoin
  rw [live_s1, live_s2]
  simp only [e1, if_true]
  rw [hp]; exact live_s3
theorem sok1 : SersOk [sx, sz] := ⟨by decide, fun x hx => by
  rcases List.mem_cons.1 hx with rfl | hx
  · exact ⟨by decide, (set_ok set_lx).1⟩
  · rw [List.mem_singleton.1 hx]; exact ⟨by decide, (set_ok set_lz).1⟩⟩
theorem sok2 : SersOk [sy] := ⟨by decide, fun x hx => by rw [List.mem_singleton.1 hx]; exact ⟨by decide, (set_ok set_ly).1⟩⟩
theorem sok3 : SersOk [sj] := ⟨by decide, fun x hx => by rw [List.mem_singleton.1 hx]; exact ⟨by decide, (set_ok set_ly).1⟩⟩
theorem red1 (A : Option Addr) (c : Nat) (hc : 3 ≤ c) (w : World) (hr : Kd.C k39 w A 3 liveP) : Calls Tryz.prog 10 #[.string ⟨#[109, 101, 97, 110]⟩, .bool false, .slice A 3 c] w fun e w' => e = .returned (.tuple #[.agg #[.int .i64 1, .int .i64 1500], .int .i64 0]) ∧ Below w.heap.size w w' := by
  have h := reduce_calls ⟨#[109, 101, 97, 110]⟩ false A c liveP (by decide) w hr hc
  rw [live_r1] at h
  exact h
theorem red2 (A : Option Addr) (c : Nat) (hc : 3 ≤ c) (w : World) (hr : Kd.C k39 w A 3 liveP) : Calls Tryz.prog 10 #[.string ⟨#[109, 101, 97, 110]⟩, .bool true, .slice A 3 c] w fun e w' => e = .returned (.tuple #[.agg #[.int .i64 3, .int .i64 0], .int .i64 0]) ∧ Below w.heap.size w w' := by
  have h := reduce_calls ⟨#[109, 101, 97, 110]⟩ true A c liveP (by decide) w hr hc
  rw [live_r2] at h
  exact h
theorem red3 (w : World) : Calls Tryz.prog 10 #[.string ⟨#[110, 111, 110, 101]⟩, .bool false, .slice none 0 0] w fun e w' => e = .returned (.tuple #[.agg #[.int .i64 0, .int .i64 0], .int .i64 100]) ∧ Below w.heap.size w w' := by
  have h := reduce_calls ⟨#[110, 111, 110, 101]⟩ false none 0 [] (by decide) w ⟨rfl, by decide, fun h => absurd h (by decide)⟩ (by decide)
  rw [live_r3] at h
  exact h
theorem joinl (A B : Option Addr) (w : World) (hA : Kd.C k37 w A 2 [sx, sz]) (hB : Kd.C k37 w B 1 [sy]) : Calls Tryz.prog 19 #[.string ⟨#[43]⟩, .slice A 2 2, .slice B 1 1] w fun e w' => ∃ v : Value, e = .returned (.tuple #[v, .int .i64 0]) ∧ Kd.N k37 37 w' w.heap.size (fun _ => True) v [sj] ∧ Below w.heap.size w w' := by
  have h := sjoin_calls ⟨#[43]⟩ A B 2 1 [sx, sz] [sy] sok1 sok2 w hA hB
  rw [live_j] at h
  exact h
/-- What stands while the answers are held against each other. -/
def LiveS (w : World) (N1 N2 Y : Nat) (Aj : Option Addr) (cj : Nat) (w' : World) : Prop := Below w.heap.size w w' ∧ w'.cell? ⟨N1, 0, none⟩ = some (.int .i64 1) ∧ w'.cell? ⟨N1, 1, none⟩ = some (.int .i64 1500) ∧ w'.cell? ⟨N2, 0, none⟩ = some (.int .i64 3) ∧ w'.cell? ⟨N2, 1, none⟩ = some (.int .i64 0) ∧ Sd (Kd.C k62 w' (some ⟨Y, 0, none⟩) 2 ly) ∧ Sd (Kd.C k37 w' Aj 1 [sj] ∧ 1 ≤ cj)
theorem LiveS.below {w w1 w2 : World} {N1 N2 Y : Nat} {Aj : Option Addr} {cj : Nat} (h : LiveS w N1 N2 Y Aj cj w1) (hb : Below w1.heap.size w1 w2) : LiveS w N1 N2 Y Aj cj w2 := by
  obtain ⟨h0, h1, h2, h3, h4, h5, h6⟩ := h
  exact ⟨h0.trans (hb.mono h0.size), pw_cell_below hb h1, pw_cell_below hb h2, pw_cell_below hb h3, pw_cell_below hb h4, ⟨Kd.C_below h5.out hb⟩, ⟨⟨Kd.C_below h6.out.1 hb, h6.out.2⟩⟩⟩
theorem LiveS.drew {w w1 : World} {N1 N2 Y : Nat} {Aj : Option Addr} {cj : Nat} (h : LiveS w N1 N2 Y Aj cj w1) : LiveS w N1 N2 Y Aj cj w1.drew := h.below (Below.refl _ _).drew
theorem LiveS.alloc {w w1 : World} {N1 N2 Y : Nat} {Aj : Option Addr} {cj : Nat} (h : LiveS w N1 N2 Y Aj cj w1) (o : Obj) : LiveS w N1 N2 Y Aj cj (w1.alloc o) := h.below (below1 w1 o)
/-- 'Same', at a list that is laid just now. -/
theorem same_fresh {w W : World} {N1 N2 Y : Nat} {Aj : Option Addr} {cj : Nat} (h : LiveS w N1 N2 Y Aj cj W) : Calls Tryz.prog 16 #[.slice Aj 1 cj, .slice (some ⟨W.heap.size, 0, none⟩) 1 1] (W.alloc (.cells #[.slice (some ⟨Y, 0, none⟩) 2 2, .int .i64 1, .int .i64 11] 37)) fun e w' => e = .returned (.bool true) ∧ Below W.heap.size W w' := by
  have hb := below1 W (.cells #[.slice (some ⟨Y, 0, none⟩) 2 2, .int .i64 1, .int .i64 11] 37)
  have h5 := Kd.C_below h.2.2.2.2.2.1.out hb
  have h6 := Kd.C_below h.2.2.2.2.2.2.out.1 hb
  have hC := row_of k37 (g := W.heap.size) [(sj, [.slice (some ⟨Y, 0, none⟩) 2 2, .int .i64 1, .int .i64 11])] (fun q hq => by
    rw [List.mem_singleton.1 hq]
    exact k37_mk _ sj (Nat.le_refl 2) h5) (by simp) (blk_new W _)
  exact (same_calls Aj _ cj 1 [sj] sok3 _ h6 h.2.2.2.2.2.2.out.2 hC (Nat.le_refl 1)).mono fun e w' ⟨he, hw⟩ => ⟨he, hb.trans (hw.mono hb.size)⟩
theorem num_calls10 (n : Int) (w : World) : Calls Tryz.prog 12 #[.int .i64 n] w fun e w' => e = .returned (.int .i64 n) ∧ Below w.heap.size w w' :=
  (l10_num.calls n n w rfl).mono fun e w' ⟨he, hw⟩ => ⟨he, by obtain ⟨m, rfl⟩ := hw; exact pbd (Below.refl _ _) m⟩
def l10_live.f : Option Bool := some true
abbrev cP : Array Value := #[.int .i64 0, .int .i64 1, .int .i64 1000, .int .i64 0, .int .i64 1, .int .i64 2000, .int .i64 0, .int .i64 2, .int .i64 0]
theorem liveP_C {W : World} {g : Nat} (h : W.heap[g]? = some (.cells cP 39 (0, 0))) : Kd.C k39 W (some ⟨g, 0, none⟩) 3 liveP :=
  row_of k39 [(⟨0, ⟨1, 1000⟩⟩, [.int .i64 0, .int .i64 1, .int .i64 1000]), (⟨0, ⟨1, 2000⟩⟩, [.int .i64 0, .int .i64 1, .int .i64 2000]), (⟨0, ⟨2, 0⟩⟩, [.int .i64 0, .int .i64 2, .int .i64 0])] (fun q hq => by
    simp only [List.mem_cons, List.not_mem_nil, or_false] at hq
    rcases hq with rfl | rfl | rfl <;> exact k39_mk _ _) (by simp) h
theorem lab1_C {W : World} {g : Nat} {a b : ByteArray} (h : W.heap[g]? = some (.cells #[.string a, .string b] 62 (0, 0))) : Kd.C k62 W (some ⟨g, 0, none⟩) 1 [⟨a, b⟩] :=
  row_of k62 [(⟨a, b⟩, [.string a, .string b])] (fun q hq => by rw [List.mem_singleton.1 hq]; exact k62_mk _ _) (by simp) h
theorem lab2_C {W : World} {g : Nat} {a b c d : ByteArray} (h : W.heap[g]? = some (.cells #[.string a, .string b, .string c, .string d] 62 (0, 0))) : Kd.C k62 W (some ⟨g, 0, none⟩) 2 [⟨a, b⟩, ⟨c, d⟩] :=
  row_of k62 [(⟨a, b⟩, [.string a, .string b]), (⟨c, d⟩, [.string c, .string d])] (fun q hq => by
    simp only [List.mem_cons, List.not_mem_nil, or_false] at hq
    rcases hq with rfl | rfl <;> exact k62_mk _ _) (by simp) h
theorem ser1_C {W : World} {g Y : Nat} {x : List Lab} {n k m : Nat} (h : W.heap[g]? = some (.cells #[.slice (some ⟨Y, 0, none⟩) n n, .int .i64 k, .int .i64 m] 37 (0, 0))) (hx : Kd.C k62 W (some ⟨Y, 0, none⟩) n x) (hn : n = x.length) : Kd.C k37 W (some ⟨g, 0, none⟩) 1 [⟨x, ⟨k, m⟩⟩] := by
  subst hn
  exact row_of k37 [((⟨x, ⟨k, m⟩⟩ : Ser), [.slice (some ⟨Y, 0, none⟩) x.length x.length, .int .i64 k, .int .i64 m])] (fun q hq => by rw [List.mem_singleton.1 hq]; exact k37_mk _ (⟨x, ⟨k, m⟩⟩ : Ser) (Nat.le_refl _) hx) (by simp) h
theorem ser2_C {W : World} {g Y Z : Nat} {x z : List Lab} {n n' : Nat} {k m k' m' : Int} (h : W.heap[g]? = some (.cells #[.slice (some ⟨Y, 0, none⟩) n n, .int .i64 k, .int .i64 m, .slice (some ⟨Z, 0, none⟩) n' n', .int .i64 k', .int .i64 m'] 37 (0, 0))) (hx : Kd.C k62 W (some ⟨Y, 0, none⟩) n x) (hn : n = x.length) (hz : Kd.C k62 W (some ⟨Z, 0, none⟩) n' z) (hn' : n' = z.length) : Kd.C k37 W (some ⟨g, 0, none⟩) 2 [⟨x, ⟨k, m⟩⟩, ⟨z, ⟨k', m'⟩⟩] := by
  subst hn; subst hn'
  exact row_of k37 [((⟨x, ⟨k, m⟩⟩ : Ser), [.slice (some ⟨Y, 0, none⟩) x.length x.length, .int .i64 k, .int .i64 m]), ((⟨z, ⟨k', m'⟩⟩ : Ser), [.slice (some ⟨Z, 0, none⟩) z.length z.length, .int .i64 k', .int .i64 m'])] (fun q hq => by
    simp only [List.mem_cons, List.not_mem_nil, or_false] at hq
    rcases hq with rfl | rfl
    · exact k37_mk _ (⟨x, ⟨k, m⟩⟩ : Ser) (Nat.le_refl _) hx
    · exact k37_mk _ (⟨z, ⟨k', m'⟩⟩ : Ser) (Nat.le_refl _) hz) (by simp) h
attribute [local go_sem high] eqA25
theorem l10_live.calls (r : Bool) (w : World) (h : l10_live.f = some r) : Calls Tryz.prog 9 #[] w fun e w' => e = .returned (.bool r) ∧ Below w.heap.size w w' := by
  injection h with h
  subst h
  have mixed : Tryz.prog.follows .mixedOrders = true := by kernel_rfl
  go_enter Tryz.func9, Tryz.ntmps9
  go_wp2_with fail
  refine (rnum_calls 1000 (by omega) (by omega) w).mono ?_
  rintro e w1 ⟨rfl, hb1⟩
  go_wp2_with fail
  refine (rnum_calls 2000 (by omega) (by omega) w1).mono ?_
  rintro e w2 ⟨rfl, hb2⟩
  go_wp2_with fail
  refine (rnull_calls w2).mono ?_
  rintro e w3 ⟨rfl, hb3⟩
  have HK := Sd.mk ((((Bk.start w).below hb1).below hb2).below hb3)
  clear hb1 hb2 hb3
  have HK3 := Sd.mk (HK.out.push cP 39)
  go_wp2_with fail
  refine (red1 _ 3 (Nat.le_refl 3) _ (liveP_C (HK3.out.get List.mem_cons_self))).mono ?_
  rintro e w4 ⟨rfl, hb4⟩
  have HK4 := Sd.mk (HK3.out.below hb4)
  have HK4b := Sd.mk (HK4.out.push #[.int .i64 1, .int .i64 1500] 25)
  obtain ⟨L, hL⟩ : ∃ L, w3.heap.size = L := ⟨_, rfl⟩
  obtain ⟨N1, hN1⟩ : ∃ L, w4.heap.size = L := ⟨_, rfl⟩
  rw [hL] at HK4b
  rw [hN1] at HK4b
  go_wp2_with fail
  clear hb4 HK HK3 HK4 hL
  refine (red2 _ 3 (Nat.le_refl 3) _ (liveP_C (HK4b.out.get (n := L) (by simp)))).mono ?_
  rintro e w5 ⟨rfl, hb5⟩
  have HK5 := Sd.mk (HK4b.out.below hb5)
  have HK5b := Sd.mk ((((HK5.out.push #[.int .i64 3, .int .i64 0] 25).push #[.string ⟨#[97]⟩, .string ⟨#[49]⟩] 62).push #[.string ⟨#[97]⟩, .string ⟨#[49]⟩, .string ⟨#[98]⟩, .string ⟨#[49]⟩] 62).push #[.string ⟨#[97]⟩, .string ⟨#[50]⟩] 62)
  simp only [World.size_alloc] at HK5b
  obtain ⟨N2, hN2⟩ : ∃ L, w5.heap.size = L := ⟨_, rfl⟩
  rw [hN2] at HK5b
  clear hb5 HK5 HK4b hN1
  go_wp2_with fail
  refine (rnum_calls 1 (by omega) (by omega) _).mono ?_
  rintro e w6 ⟨rfl, hb6⟩
  have HK6 := Sd.mk (HK5b.out.below hb6)
  clear hb6 HK5b hN2
  go_wp2_with fail
  refine (rnum_calls 2 (by omega) (by omega) w6).mono ?_
  rintro e w7 ⟨rfl, hb7⟩
  have HK7 := Sd.mk (HK6.out.below hb7)
  have HK7b := Sd.mk (HK7.out.push #[.slice (some ⟨N2 + 1, 0, none⟩) 1 1, .int .i64 1, .int .i64 1, .slice (some ⟨N2 + 1 + 1 + 1, 0, none⟩) 1 1, .int .i64 1, .int .i64 2] 37)
  obtain ⟨P, hP⟩ : ∃ L, w7.heap.size = L := ⟨_, rfl⟩
  rw [hP] at HK7b
  clear hb7 HK6 HK7
  go_wp2_with fail
  refine (rnum_calls 10 (by omega) (by omega) _).mono ?_
  rintro e w8 ⟨rfl, hb8⟩
  have HK8 := Sd.mk (HK7b.out.below hb8)
  have HK8b := Sd.mk (HK8.out.push #[.slice (some ⟨N2 + 1 + 1, 0, none⟩) 2 2, .int .i64 1, .int .i64 10] 37)
  obtain ⟨Q, hQ⟩ : ∃ L, w8.heap.size = L := ⟨_, rfl⟩
  rw [hQ] at HK8b
  clear hb8 HK7b HK8 hP
  go_wp2_with fail
  refine (joinl (some ⟨P, 0, none⟩) (some ⟨Q, 0, none⟩) _ (ser2_C (HK8b.out.get (n := P) (by simp)) (lab1_C (HK8b.out.get (n := N2 + 1) (by simp))) rfl (lab1_C (HK8b.out.get (n := N2 + 1 + 1 + 1) (by simp))) rfl) (ser1_C (HK8b.out.get (n := Q) (by simp)) (lab2_C (HK8b.out.get (n := N2 + 1 + 1) (by simp))) rfl)).mono ?_
  rintro e w9 ⟨v, rfl, hv, hb9⟩
  have HK9 := Sd.mk (HK8b.out.below hb9)
  obtain ⟨Aj, cj, rfl, hcj, hCj⟩ := Kd.N_reads hv
  have HJ := Sd.mk (And.intro hCj hcj)
  clear hb9 HK8b hQ hv hcj hCj
  go_wp2_with fail
  refine (red3 w9).mono ?_
  rintro e w10 ⟨rfl, hb10⟩
  have HK10 := Sd.mk (HK9.out.below hb10)
  have hba := below1 w10 (.cells #[.int .i64 0, .int .i64 0] 25)
  have HK11 := Sd.mk (HK10.out.below hba)
  have S0 : LiveS w N1 N2 (N2 + 1 + 1) Aj cj (w10.alloc (.cells #[.int .i64 0, .int .i64 0] 25)) := ⟨HK11.out.b, HK11.out.cell (n := N1) (cs := #[.int .i64 1, .int .i64 1500]) (t := 25) (i := 0) (by simp) rfl, HK11.out.cell (n := N1) (cs := #[.int .i64 1, .int .i64 1500]) (t := 25) (i := 1) (by simp) rfl, HK11.out.cell (n := N2) (cs := #[.int .i64 3, .int .i64 0]) (t := 25) (i := 0) (by simp) rfl, HK11.out.cell (n := N2) (cs := #[.int .i64 3, .int .i64 0]) (t := 25) (i := 1) (by simp) rfl, ⟨lab2_C (HK11.out.get (n := N2 + 1 + 1) (by simp))⟩, ⟨⟨Kd.C_below (Kd.C_below HJ.out.1 hb10) hba, HJ.out.2⟩⟩⟩
  clear hb10 hba HK9 HK10 HK11 HJ
  go_wp2_with fail
  generalize w10.alloc (.cells #[.int .i64 0, .int .i64 0] 25) = W at S0 ⊢
  have S1 : LiveS w N1 N2 (N2 + 1 + 1) Aj cj W := S0
  clear S0
  go_region_held3 (fun w' => Below w.heap.size w w' ∧ w'.cell? ⟨N1, 0, none⟩ = some (.int .i64 1) ∧ w'.cell? ⟨N1, 1, none⟩ = some (.int .i64 1500) ∧ w'.cell? ⟨N2, 0, none⟩ = some (.int .i64 3) ∧ w'.cell? ⟨N2, 1, none⟩ = some (.int .i64 0) ∧ Sd (Kd.C k62 w' (some ⟨N2 + 1 + 1, 0, none⟩) 2 ly) ∧ Sd (Kd.C k37 w' Aj 1 [sj] ∧ 1 ≤ cj)) (first | exact hS | exact LiveS.drew (by assumption) | exact LiveS.alloc (by assumption) _ | go_keep)
    (first
      | (go_at_call 12; (with_reducible refine (num_calls10 _ _).mono ?_); rintro e w2 ⟨rfl, hb1⟩; have hS : LiveS w N1 N2 (N2 + 1 + 1) Aj cj _ := LiveS.below (by assumption) hb1; clear hb1)
      | (go_at_call 27; (with_reducible refine (rnum_calls 1500 (by omega) (by omega) _).mono ?_); rintro e w2 ⟨rfl, hb1⟩; have hS : LiveS w N1 N2 (N2 + 1 + 1) Aj cj _ := LiveS.below (by assumption) hb1; clear hb1)
      | (go_at_call 27; (with_reducible refine (rnum_calls 11 (by omega) (by omega) _).mono ?_); rintro e w2 ⟨rfl, hb1⟩; have hS : LiveS w N1 N2 (N2 + 1 + 1) Aj cj _ := LiveS.below (by assumption) hb1; clear hb1)
      | (go_at_call 29; (with_reducible refine (rnan_calls _).mono ?_); rintro e w2 ⟨rfl, hb1⟩; have hS : LiveS w N1 N2 (N2 + 1 + 1) Aj cj _ := LiveS.below (by assumption) hb1; clear hb1)
      | (go_at_call 16; (refine (same_fresh (show LiveS w N1 N2 (N2 + 1 + 1) Aj cj _ by assumption)).mono ?_); rintro e w2 ⟨rfl, hb1⟩; have hS : LiveS w N1 N2 (N2 + 1 + 1) Aj cj _ := LiveS.below (by assumption) hb1; clear hb1))
  go_wp2
  go_ret
  exact ⟨by simp, (show LiveS w N1 N2 (N2 + 1 + 1) Aj cj _ by assumption).1⟩
theorem op1_neg : tab1.lookup ⟨#[45]⟩ = some (vPlain (fun n => -n)) := rfl
theorem op1_null : tab1.lookup ⟨#[105, 115, 95, 110, 117, 108, 108]⟩ = some (vKind [2]) := rfl
abbrev sb (l : List UInt8) : ByteArray := ⟨l.toArray⟩
/-- The kinds of a value. -/
theorem isV_cases {a : V} (h : isV a) : (a.1 = 1 ∧ -1000000000000000 ≤ a.2 ∧ a.2 ≤ 1000000000000000) ∨ a = (2, 0) ∨ a = (3, 0) ∨ a = (4, 0) ∨ a = (5, 0) := by
  rcases h with h | ⟨h, h0⟩
  · exact .inl h
  · right
    obtain ⟨k, n⟩ := a
    have h0' : n = 0 := h0
    have h' : k = 2 ∨ k = 3 ∨ k = 4 ∨ k = 5 := h
    subst h0'
    rcases h' with rfl | rfl | rfl | rfl <;> simp
theorem rtrue_is {a : V} (h : isV a) : r8_True.f a.1 a.2 = some (vTrue a) := by
  rcases isV_cases h with ⟨h1, h2, h3⟩ | rfl | rfl | rfl | rfl
  · obtain ⟨k, n⟩ := a
    have h1' : k = 1 := h1
    subst h1'
    unfold r8_True.f vTrue
    by_cases h0 : n = 0
    · subst h0; rfl
    · simp [h0]
  all_goals rfl
/-- What a list of the law's own becomes: the list, in a row. -/
theorem own_calls (A : Option Addr) (c : Nat) (l : List Ser) (hl : SersOk l) (w : World) (hr : Kd.C k37 w A l.length l) (hc : l.length ≤ c) :
    Calls Tryz.prog 15 #[.slice A l.length c] w fun e w' => ∃ (A' : Option Addr) (c' : Nat), e = .returned (.slice A' l.length c') ∧ Kd.N k37 37 w' w.heap.size (fun _ => True) (.slice A' l.length c') l ∧ Kd.C k37 w' A' l.length l ∧ l.length ≤ c' ∧ Below w.heap.size w w' := by
  obtain ⟨k, hk⟩ := (own_ev l hl).rounds
  refine (l10_own.calls k A c l l w hr hc hk).mono ?_
  rintro e w' ⟨v, rfl, hs, hb⟩
  have hN := Kd.S_N hs
  obtain ⟨A', c', rfl, h1, h2⟩ := Kd.N_reads hN
  exact ⟨A', c', rfl, hN, h2, h1, hb⟩
/-- series.Sort, of a row, told so. -/
theorem sort_calls' (A : Option Addr) (c : Nat) (l : List Ser) (hl : SersOk l) (w : World) (hr : Kd.C k37 w A l.length l) {s : List Ser} {e0 : Int} (hs : vSort l = (s, e0)) :
    Calls Tryz.prog 14 #[.slice A l.length c] w fun e w' => ∃ (A' : Option Addr) (c' : Nat), e = .returned (.tuple #[.slice A' s.length c', .int .i64 e0]) ∧ Kd.C k37 w' A' s.length s ∧ s.length ≤ c' ∧ Below w.heap.size w w' := by
  have h := ssort_calls A c l hl w hr
  rw [hs] at h
  refine h.mono ?_
  rintro e w' ⟨v, rfl, hN, hb⟩
  obtain ⟨A', c', rfl, h1, h2⟩ := Kd.N_reads hN
  exact ⟨A', c', rfl, h2, h1, hb⟩
/-- Element i of a list that came in. -/
theorem came_at {w : World} {A : Option Addr} {n : Nat} {l : List Ser} (hr : Kd.C k37 w A n l) (i : Nat) (hi : i < l.length) :
    ∃ ad A0 c0, A = some ad ∧ w.cell? (ad.add (i * 3)) = some (.slice A0 (l[i]).f0.length c0) ∧ w.cell? ⟨(ad.add (i * 3)).block, (ad.add (i * 3)).off + 1, none⟩ = some (.int .i64 (l[i]).f1.f0) ∧ w.cell? ⟨(ad.add (i * 3)).block, (ad.add (i * 3)).off + 2, none⟩ = some (.int .i64 (l[i]).f1.f1) ∧ Kd.FK k37 w (fun k => k < w.heap.size) l[i] [.slice A0 (l[i]).f0.length c0, .int .i64 (l[i]).f1.f0, .int .i64 (l[i]).f1.f1] := by
  have hn := hr.1
  obtain ⟨ad, c, rfl, hl, hK, hc, _⟩ := Kd.F_get (Kd.C_F heapSer hr) z37 (i : Int) (by omega) (by omega)
  rw [Int.toNat_natCast, List.getD_eq_getElem?_getD, List.getElem?_eq_getElem hi] at hK
  rw [Int.toNat_natCast] at hc
  obtain ⟨A0, c0, rfl, l0, g0⟩ := k37_open (Kd.FK_now hK)
  exact ⟨ad, A0, c0, rfl, hc 0 _ rfl, by rw [← add_field _ _ 1 (by omega)]; exact hc 1 _ rfl, by rw [← add_field _ _ 2 (by omega)]; exact hc 2 _ rfl, hK⟩
abbrev bNeg : ByteArray := ⟨#[45]⟩
abbrev bNull : ByteArray := ⟨#[105, 115, 95, 110, 117, 108, 108]⟩
theorem vdo_1 {op : ByteArray} {F : V → V} (ht : tab1.lookup op = some F) {a : V} (ha : isV a) : vDo op [a] = (F a, 0) := by
  unfold vDo
  have hb : ([a].any fun x => !decide (isV x)) = false := by simp [ha]
  rw [hb]
  simp [ht]
abbrev vNeg : V → V := vPlain (fun n => -n)
theorem neg_isV {a : V} (h : isV a) : isV (vNeg a) := by
  show isV (vPlain _ a)
  unfold vPlain
  split
  · exact h
  · split
    · exact h
    · exact isV_num
theorem neg_num {n : Int} (h1 : -1000000000000000 ≤ n) (h2 : n ≤ 1000000000000000) : vNeg (1, n) = (1, -n) := by
  have e : vRank ((1 : Int), n) = n := by unfold vRank; rw [if_neg (by show ¬ (1 : Int) = 4; omega), if_neg (by show ¬ (1 : Int) = 5; omega)]
  show vPlain _ _ = _
  unfold vPlain
  rw [e, if_neg (by show ¬ (1 : Int) = 2; omega), if_neg (by show ¬ (1 : Int) = 3; omega)]
  show vNum (-n) = _
  unfold vNum
  rw [if_neg (by omega), if_neg (by omega)]
theorem neg_inf : vNeg (4, 0) = (5, 0) := by
  have e : vRank ((4 : Int), (0 : Int)) = 1000000000000001 := by unfold vRank; rw [if_pos rfl]
  show vPlain _ _ = _
  unfold vPlain
  rw [e, if_neg (by show ¬ (4 : Int) = 2; omega), if_neg (by show ¬ (4 : Int) = 3; omega)]
  show vNum (-1000000000000001) = _
  unfold vNum
  rw [if_neg (by omega), if_pos (by omega)]
theorem neg_ninf : vNeg (5, 0) = (4, 0) := by
  have e : vRank ((5 : Int), (0 : Int)) = -1000000000000001 := by unfold vRank; rw [if_neg (by show ¬ (5 : Int) = 4; omega), if_pos rfl]
  show vPlain _ _ = _
  unfold vPlain
  rw [e, if_neg (by show ¬ (5 : Int) = 2; omega), if_neg (by show ¬ (5 : Int) = 3; omega)]
  show vNum (1000000000000001) = _
  unfold vNum
  rw [if_pos (by omega)]
theorem neg_twice {a : V} (h : isV a) : vNeg (vNeg a) = a := by
  obtain ⟨k, n⟩ := a
  unfold isV at h
  simp only at h
  rcases h with ⟨rfl, h1, h2⟩ | ⟨hk, rfl⟩
  · rw [neg_num (by omega) (by omega), neg_num (by omega) (by omega), Int.neg_neg]
  · rcases hk with rfl | rfl | rfl | rfl
    · rfl
    · rfl
    · rw [neg_inf, neg_ninf]
    · rw [neg_ninf, neg_inf]
theorem null_true (a : V) : vTrue (vKind [2] a) = (a.1 == 2) := by
  unfold vKind
  simp only [List.any_cons, List.any_nil, Bool.or_false]
  cases a.1 == 2 <;> rfl
theorem map_neg {x : Ser} (h : isV (x.f1.f0, x.f1.f1)) : mapV bNeg x = ⟨x.f0, ⟨(vNeg (x.f1.f0, x.f1.f1)).1, (vNeg (x.f1.f0, x.f1.f1)).2⟩⟩ := by
  unfold mapV
  rw [vdo_1 op1_neg h]
theorem map_null {x : Ser} (h : isV (x.f1.f0, x.f1.f1)) : mapV bNull x = ⟨x.f0, ⟨(vKind [2] (x.f1.f0, x.f1.f1)).1, (vKind [2] (x.f1.f0, x.f1.f1)).2⟩⟩ := by
  unfold mapV
  rw [vdo_1 op1_null h]
/-- A frame of values. -/
structure Fr (s : List Ser) : Prop where
  set : ∀ x ∈ s, isSet x.f0 = true
  val : ∀ x ∈ s, isV (x.f1.f0, x.f1.f1)
  str : Strict cmpSer s
  len : s.length ≤ 200
theorem Fr.of {l s : List Ser} (h : vSort l = (s, 0)) : Fr s := by
  have e : (vSort l).2 = 0 := by rw [h]
  have e1 : (vSort l).1 = s := by rw [h]
  rw [← e1]
  exact ⟨fun x hx => (vSort_ok e).1 x ((vSort_mem e).1 hx), fun x hx => (vSort_ok e).2.1 x ((vSort_mem e).1 hx), vSort_isStrict e, vSort_len e⟩
theorem Fr.sort {s : List Ser} (h : Fr s) : vSort s = (s, 0) := vSort_strict h.set h.val h.str h.len
theorem Fr.sers {s : List Ser} (h : Fr s) : SersOk s := by
  have := sers_ok (l := s) (by rw [h.sort])
  rw [h.sort] at this
  exact this
theorem Fr.turned {s : List Ser} (h : Fr s) : Fr (s.map (mapV bNeg)) := by
  refine ⟨fun x hx => ?_, fun x hx => ?_, ?_, by rw [List.length_map]; exact h.len⟩
  · obtain ⟨y, hy, rfl⟩ := List.mem_map.1 hx; exact h.set y hy
  · obtain ⟨y, hy, rfl⟩ := List.mem_map.1 hx
    rw [map_neg (h.val y hy)]
    exact neg_isV (h.val y hy)
  · exact List.pairwise_map.2 (h.str.imp fun h => h)
theorem ok_neg : (vDo bNeg [(1, 0)]).2 = 0 := by rw [vdo_1 op1_neg (.inl ⟨rfl, by decide, by decide⟩)]
theorem ok_null : (vDo bNull [(1, 0)]).2 = 0 := by rw [vdo_1 op1_null (.inl ⟨rfl, by decide, by decide⟩)]
theorem Fr.map {s : List Ser} (h : Fr s) (op : ByteArray) (hop : (vDo op [(1, 0)]).2 = 0) : vMap op s = (s.map (mapV op), 0) := by
  unfold vMap
  rw [h.sort, if_pos rfl, if_pos hop]
theorem Fr.twice {s : List Ser} (h : Fr s) : vMap bNeg (s.map (mapV bNeg)) = (s, 0) := by
  rw [h.turned.map bNeg ok_neg, List.map_map]
  congr 1
  conv => rhs; rw [← List.map_id s]
  refine List.map_congr_left fun x hx => ?_
  have hv := h.val x hx
  show mapV bNeg (mapV bNeg x) = x
  rw [map_neg hv, map_neg (neg_isV hv)]
  show (⟨x.f0, ⟨(vNeg (vNeg (x.f1.f0, x.f1.f1))).1, (vNeg (vNeg (x.f1.f0, x.f1.f1))).2⟩⟩ : Ser) = x
  rw [neg_twice hv]
theorem Fr.null {s : List Ser} (h : Fr s) (i : Nat) (hi : i < s.length) : vTrue ((mapV bNull s[i]).f1.f0, (mapV bNull s[i]).f1.f1) = (s[i].f1.f0 == 2) := by
  rw [map_null (h.val _ (List.getElem_mem hi))]
  exact null_true _
theorem Fr.nullV {s : List Ser} (h : Fr s) (i : Nat) (hi : i < s.length) : isV ((mapV bNull s[i]).f1.f0, (mapV bNull s[i]).f1.f1) := by
  rw [map_null (h.val _ (List.getElem_mem hi))]
  show isV (vTruth _)
  unfold vTruth
  split
  · exact .inl ⟨rfl, by decide, by decide⟩
  · exact .inl ⟨rfl, by decide, by decide⟩
/-- series.Map, of a row, told so. -/
theorem map_calls' (op : ByteArray) (A : Option Addr) (c : Nat) (l : List Ser) (hl : SersOk l) (w : World) (hr : Kd.C k37 w A l.length l) {s : List Ser} {e0 : Int} (hs : vMap op l = (s, e0)) :
    Calls Tryz.prog 21 #[.string op, .slice A l.length c] w fun e w' => ∃ (A' : Option Addr) (c' : Nat), e = .returned (.tuple #[.slice A' s.length c', .int .i64 e0]) ∧ Kd.C k37 w' A' s.length s ∧ s.length ≤ c' ∧ Below w.heap.size w w' := by
  have h := smap_calls op A c l hl w hr
  rw [hs] at h
  refine h.mono ?_
  rintro e w' ⟨v, rfl, hN, hb⟩
  obtain ⟨A', c', rfl, h1, h2⟩ := Kd.N_reads hN
  exact ⟨A', c', rfl, h2, h1, hb⟩
theorem v_calls10 (v : V) (hv : isV v) (w : World) : Calls Tryz.prog 22 #[.agg #[.int .i64 v.1, .int .i64 v.2]] w fun e w' => e = .returned (.bool (vTrue v)) ∧ Below w.heap.size w w' :=
  (l10_value.calls v.1 v.2 _ w (by unfold l10_value.f; rw [rtrue_is hv]; rfl)).mono fun e w' ⟨he, hw⟩ => ⟨he, by
    first
      | exact hw
      | (obtain ⟨m, rfl⟩ := hw; exact pbd (Below.refl _ _) m)⟩
theorem sturned_calls (A : Option Addr) (c : Nat) (l : List Ser) (hl : SersOk l) (w : World) (hr : Kd.C k37 w A l.length l) (hc : l.length ≤ c) :
    Calls Tryz.prog 7 #[.slice A l.length c] w fun e w' => e = .returned (.bool true) ∧ Below w.heap.size w w' := by
  have mixed : Tryz.prog.follows .mixedOrders = true := by kernel_rfl
  obtain ⟨sm, hsm, him⟩ := small_ev l hl
  obtain ⟨ks, hks⟩ := hsm.rounds
  have HSM := Sd.mk (l10_small.calls ks A c l sm w hr hc hks)
  have HL := Sd.mk hr
  clear hsm hks hr
  cases sm with
  | false =>
    clear him
    go_enter Tryz.func7, Tryz.ntmps7
    go_wp2_with fail
    refine HSM.out.mono ?_
    rintro e w1 ⟨rfl, hb1⟩
    obtain ⟨n1, rfl⟩ := hb1
    go_wp2_with fail
    refine (l10_live.calls true _ rfl).mono ?_
    rintro e w2 ⟨rfl, hb2⟩
    have HB := Sd.mk ((pbd (Below.refl w.heap.size w) n1).trans (hb2.mono (Nat.le_refl _)))
    clear hb2
    go_wp2
    go_ret
    exact ⟨rfl, HB.out⟩
  | true =>
    clear him
    rcases hvs : vSort l with ⟨s, e0⟩
    have HVL := Sd.mk hvs
    have HNo := Sd.mk (show e0 ≠ 0 → s = [] from fun h => by have := vSort_none (l := l) (by rw [hvs]; exact h); rw [hvs] at this; exact this)
    have HFr := Sd.mk (show e0 = 0 → Fr s from fun h => Fr.of (by rw [hvs, h]))
    clear hvs
    go_enter Tryz.func7, Tryz.ntmps7
    go_wp2_with fail
    refine HSM.out.mono ?_
    rintro e w1 ⟨rfl, hb1⟩
    obtain ⟨n1, rfl⟩ := hb1
    have HB0 := Sd.mk (pbd (Below.refl w.heap.size w) n1)
    go_wp2_with fail
    refine (own_calls A c l hl _ (Kd.C_below HL.out HB0.out) hc).mono ?_
    rintro e w6 ⟨A1, c1, rfl, _, hC1, hc1, hb6⟩
    have HC1 := Sd.mk hC1
    have HW6 := Sd.mk (HB0.out.trans (hb6.mono HB0.out.size))
    clear hC1 hb6 HB0
    go_wp2_with fail
    refine (sort_calls' A1 c1 l hl w6 HC1.out HVL.out).mono ?_
    rintro e w7 ⟨Aa, ca, rfl, hCa, hca, hb7⟩
    have HCa := Sd.mk hCa
    have HW7 := Sd.mk (HW6.out.trans (hb7.mono HW6.out.size))
    clear hCa hb7 HW6 HC1
    go_wp2_with fail
    refine (num_calls10 _ _).mono ?_
    rintro e w8 ⟨rfl, hb8⟩
    have HCa8 := Sd.mk (Kd.C_below HCa.out hb8)
    have HW8 := Sd.mk (HW7.out.trans (hb8.mono HW7.out.size))
    clear hb8 HCa HW7
    by_cases h0 : e0 = 0
    · subst h0
      have hF := HFr.out rfl
      have HF := Sd.mk hF
      have hlen := hF.len
      clear hF HFr HNo HVL
      go_wp2_with fail
      refine (own_calls Aa ca s HF.out.sers w8 HCa8.out hca).mono ?_
      rintro e w9 ⟨A2, c2, rfl, _, hC2, hc2, hb9⟩
      have HC2 := Sd.mk hC2
      have HCa9 := Sd.mk (Kd.C_below HCa8.out hb9)
      have HW9 := Sd.mk (HW8.out.trans (hb9.mono HW8.out.size))
      clear hC2 hb9 HCa8 HW8
      go_wp2_with fail
      refine (map_calls' bNeg A2 c2 s HF.out.sers w9 HC2.out (HF.out.map bNeg ok_neg)).mono ?_
      rintro e w10 ⟨Ab, cb, rfl, hCb, hcb, hb10⟩
      have HCb := Sd.mk hCb
      have HCaA := Sd.mk (Kd.C_below HCa9.out hb10)
      have HWA := Sd.mk (HW9.out.trans (hb10.mono HW9.out.size))
      clear hCb hb10 HCa9 HW9 HC2
      have HFt := Sd.mk HF.out.turned
      have HTw := Sd.mk HF.out.twice
      generalize s.map (mapV bNeg) = tn at HCb HFt HTw hcb
      go_wp2_with fail
      refine (own_calls Ab cb tn HFt.out.sers w10 HCb.out hcb).mono ?_
      rintro e w11 ⟨A3, c3, rfl, _, hC3, hc3, hb11⟩
      have HC3 := Sd.mk hC3
      have HCaB := Sd.mk (Kd.C_below HCaA.out hb11)
      have HWB := Sd.mk (HWA.out.trans (hb11.mono HWA.out.size))
      clear hC3 hb11 HCaA HWA HCb
      go_wp2_with fail
      refine (map_calls' bNeg A3 c3 tn HFt.out.sers w11 HC3.out HTw.out).mono ?_
      rintro e w12 ⟨Ac, cc, rfl, hCc, hcc, hb12⟩
      have HCc := Sd.mk hCc
      have HCaC := Sd.mk (Kd.C_below HCaB.out hb12)
      have HWC := Sd.mk (HWB.out.trans (hb12.mono HWB.out.size))
      clear hCc hb12 HCaB HWB HC3
      go_wp2_with fail
      refine (num_calls10 _ _).mono ?_
      rintro e w13 ⟨rfl, hb13⟩
      have HCaD := Sd.mk (Kd.C_below HCaC.out hb13)
      have HCcD := Sd.mk (Kd.C_below HCc.out hb13)
      have HWD := Sd.mk (HWC.out.trans (hb13.mono HWC.out.size))
      clear hb13 HCaC HCc HWC
      go_wp2_with fail
      refine (num_calls10 _ _).mono ?_
      rintro e w14 ⟨rfl, hb14⟩
      have HCaE := Sd.mk (Kd.C_below HCaD.out hb14)
      have HCcE := Sd.mk (Kd.C_below HCcD.out hb14)
      have HWE := Sd.mk (HWD.out.trans (hb14.mono HWD.out.size))
      clear hb14 HCaD HCcD HWD
      go_wp2_with fail
      refine (same_calls Ac Aa cc ca s HF.out.sers w14 HCcE.out hcc HCaE.out hca).mono ?_
      rintro e w15 ⟨rfl, hb15⟩
      have HCaF := Sd.mk (Kd.C_below HCaE.out hb15)
      have HWF := Sd.mk (HWE.out.trans (hb15.mono HWE.out.size))
      clear hb15 HCaE HCcE HWE
      go_wp2_with fail
      refine (own_calls Aa ca s HF.out.sers w15 HCaF.out hca).mono ?_
      rintro e w16 ⟨A4, c4, rfl, _, hC4, hc4, hb16⟩
      have HC4 := Sd.mk hC4
      have HCaG := Sd.mk (Kd.C_below HCaF.out hb16)
      have HWG := Sd.mk (HWF.out.trans (hb16.mono HWF.out.size))
      clear hC4 hb16 HCaF HWF
      go_wp2_with fail
      refine (map_calls' bNull A4 c4 s HF.out.sers w16 HC4.out (HF.out.map bNull ok_null)).mono ?_
      rintro e w17 ⟨An, cn, rfl, hCn, hcn, hb17⟩
      have HCn := Sd.mk hCn
      have HCaH := Sd.mk (Kd.C_below HCaG.out hb17)
      have HWH := Sd.mk (HWG.out.trans (hb17.mono HWG.out.size))
      clear hCn hb17 HCaG HWG HC4
      rw [List.length_map] at HCn hcn
      rw [List.length_map]
      go_wp2
      go_loopw [11] (fun v11 wr => ∃ i : Nat, i ≤ s.length ∧ v11 = .int .i64 i ∧ Sd (Below w17.heap.size w17 wr)) (fun v11 _ => s.length - (intOf v11).toNat)
      case atStart => exact ⟨0, Nat.zero_le _, rfl, ⟨Below.refl _ _⟩⟩
      case round =>
        obtain ⟨i, hi, rfl, HW⟩ := hrel
        by_cases hlt : i < s.length
        · have b1 : (i : Int) < (s.length : Int) := by omega
          have b2 : (0 : Int) ≤ (i : Int) := by omega
          obtain ⟨adn, A5, c5, hAn, _, n1, n2, _⟩ := came_at (l := s.map (mapV bNull)) HCn.out i (by rw [List.length_map]; exact hlt)
          obtain ⟨ads, A6, c6, hAs, _, m1, _, _⟩ := came_at HCaH.out i hlt
          subst hAn; subst hAs
          have hv := HF.out.nullV i hlt
          have hb := HF.out.null i hlt
          have eg : (s.map (mapV bNull))[i]'(by rw [List.length_map]; exact hlt) = mapV bNull s[i] := List.getElem_map ..
          rw [eg] at n1 n2
          clear eg
          generalize (mapV bNull s[i]).f1.f0 = y1 at n1 hv hb
          generalize (mapV bNull s[i]).f1.f1 = y2 at n2 hv hb
          generalize (s[i]).f1.f0 = z0 at m1 hb
          replace n1 := pw_cell_below HW.out n1
          replace n2 := pw_cell_below HW.out n2
          replace m1 := pw_cell_below HW.out m1
          have o1 := fun p : Bw wr => p.cell n1
          have o2 := fun p : Bw wr => p.cell n2
          have o3 := fun p : Bw wr => p.cell m1
          have hval := fun p : Bw wr => p.at (v_calls10 (y1, y2) hv p.w)
          rw [hb] at hval
          simp only at hval
          clear n1 n2 m1 hv hb
          by_cases hz : z0 = 2
          · subst hz
            go_wp2_with fail
            refine wp_region_Bw (by assumption) (by kernel_rfl) ?_
            repeat (quiet_step ((go_at_call 22; exact hval _)))
            refine wpQuiet_nil ?_
            intro _ hw'
            obtain ⟨p, rfl⟩ := hw'
            have HW2 := Sd.mk (HW.out.trans (p.h.mono HW.out.size))
            go_wp2
            go_roundw
            case rel => exact ⟨i + 1, by omega, by go_num, HW2⟩
            case measure => simp [intOf]; omega
          · have nz : (z0 == 2) = false := by simpa using hz
            rw [nz] at hval
            go_wp2_with fail
            refine wp_region_Bw (by assumption) (by kernel_rfl) ?_
            repeat (quiet_step ((go_at_call 22; exact hval _)))
            refine wpQuiet_nil ?_
            intro _ hw'
            obtain ⟨p, rfl⟩ := hw'
            have HW2 := Sd.mk (HW.out.trans (p.h.mono HW.out.size))
            go_wp2
            go_roundw
            case rel => exact ⟨i + 1, by omega, by go_num, HW2⟩
            case measure => simp [intOf]; omega
        · have n1 : decide ((i : Int) < (s.length : Int)) = false := decide_eq_false (by omega)
          have n2 : decide (i < s.length) = false := decide_eq_false hlt
          clear hi hlt
          go_wp2_with fail
          refine (num_calls10 _ _).mono ?_
          rintro e w18 ⟨rfl, hb18⟩
          have HW18 := Sd.mk ((HWH.out.trans (HW.out.mono HWH.out.size)).trans (hb18.mono (Nat.le_trans HWH.out.size HW.out.size)))
          clear hb18
          go_wp2_with fail
          refine (l10_live.calls true _ rfl).mono ?_
          rintro e w19 ⟨rfl, hb19⟩
          have HB := Sd.mk (HW18.out.trans (hb19.mono HW18.out.size))
          clear hb19
          go_wp2
          go_ret
          exact ⟨rfl, HB.out⟩
    · have n0 : (e0 == 0) = false := by simpa using h0
      have n1 : (e0 != 0) = true := by simpa using h0
      obtain rfl := HNo.out h0
      go_wp2_with fail
      refine (l10_live.calls true _ rfl).mono ?_
      rintro e w9 ⟨rfl, hb9⟩
      have HB := Sd.mk (HW8.out.trans (hb9.mono HW8.out.size))
      clear hb9
      go_wp2
      go_ret
      exact ⟨rfl, HB.out⟩
theorem rowTurned.calls (A : Option Addr) (c : Nat) (l : List Ser) (hl : SersOk l) (w : World) (hr : Kd.C k37 w A l.length l) (hc : l.length ≤ c) :
    Calls Tryz.prog 7 #[.slice A l.length c] w fun e w' => e = .returned (.bool true) ∧ Below w.heap.size w w' := sturned_calls A c l hl w hr hc
end Go.Proofs.YtcmiehddjgfjaaaGreat.A
