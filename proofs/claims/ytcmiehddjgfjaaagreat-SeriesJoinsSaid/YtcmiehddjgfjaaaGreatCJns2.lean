/- A part of the proof of LawSeriesJoins: contracts and plain laws, put together by a program of this session. -/
import Derived.Test.YtcmiehddjgfjaaaGreatCJns1
import Derived.Deep.Cut
import Derived.Deep.DeepCutAuto
import Derived.Deep.QuietTactic
import Derived.Shelf.Small.Strs
import Derived.Deep.LoopGhost
import Derived.Lib.SliceRun
import Derived.Shelf.SlicesQ.IndexFunc
import Derived.Test.YtcmiehddjgfjaaaGreatProg
import Derived.Shelf.SlSortCmp.ReverseRangeK
import Derived.BigQuiet
import Derived.Laws.BitsAllLaws
import Derived.Laws.Bits64
set_option linter.unusedVariables false
set_option linter.unusedSimpArgs false
set_option linter.unusedSectionVars false
set_option maxHeartbeats 8000000
set_option maxRecDepth 100000
namespace Go.Proofs.YtcmiehddjgfjaaaGreat.St.GSs
open Go.Proofs Go.Shelf Go.RowKit Go.Lib Go.Sort Go.Proofs.YtcmiehddjgfjaaaGreat.Stable
variable {P : Program} {α : Type} [Inhabited α]
theorem half_nat (i j : Nat) (hj : j < 4611686018427387904) (h : i < j) : ∃ h : Nat, ((i : Int) + (j : Int)) / 2 = (h : Int) ∧ i ≤ h ∧ h < j := ⟨(i + j) / 2, by omega, by omega, by omega⟩
theorem symLeft_w (L : StLays P) (k : Nat) (aE : ∀ w, (isAgg 37).run P w = .ok true w) (zE : ∀ w, (Go.sizeOf 37).run P w = .ok k w) (enc : α → List Value) (cf : α → α → Int) (g : Nat) (cb : Array Value) (eg : ∀ args w, (callFunc g args).run P w = .ok (.enter g args) w)
  (blk off cap a m b : Nat) (d0 d : Array α) (w0 w : World)
  (R : RowK enc k w0 blk off d0) (hs : d0.size = d.size) (hC : CmpB P g cb enc k cf blk off d.size w0) (O : Stable.Ord (ltOf cf)) (S : SB enc k w0 blk off d w) (hm : m = a + 1) (hmb : m < b) (hb : b ≤ d.size) (hsz : d.size < 4611686018427387904)
  (pre U V post : List α) (T : Two (ltOf cf) a m b pre U V post d) :
  Calls P 168 #[.slice (some ⟨blk, off, none⟩) d.size cap, .int .i64 a, .int .i64 m, .int .i64 b, .func (.func g) #[] cb] w fun e w' => e = .returned (.tuple #[]) ∧ ∃ d', d'.toList = pre ++ (merge (ltOf cf) U V ++ post) ∧ d'.size = d.size ∧ SB enc k w0 blk off d' w' := by
 have mixed := L.mixed; have t3 := L.t3; have a3 := L.a3; have z3 := L.z3; have v3 := L.v3; have t4 := L.t4; have a4 := L.a4; have z4 := L.z4; have v4 := L.v4; have t53 := L.t53; have a53 := L.a53; have z53 := L.z53; have t22 := L.t22; have a22 := L.a22; have z22 := L.z22; have t45 := L.t45
 have FG := L.f34
 have S0 : Aside (SB enc k w0 blk off d w) := S
 have HC : Aside (CmpB P g cb enc k cf blk off d.size w0) := hC
 have HT : Aside (Two (ltOf cf) a m b pre U V post d) := T
 have HO : Aside (Stable.Ord (ltOf cf)) := O
 have B0 : Aside (Bin (fun q => ltOf cf d[q]! d[a]!) m b m b) := Bin.start (T.mono1 O) (by omega)
 have HM : Aside (m = a + 1) := hm
 have am : a < m := by omega
 have tm : ((m : Int) - (a : Int) == 1) = true := by rw [beq_iff_eq]; omega
 have RR : Aside (RowK enc k w0 blk off d0) := R
 have HS : Aside (d0.size = d.size) := hs
 clear S hC T O hm L hs R
 go_enter FG, Tryz.ntmps168
 go_wp2_with fail
 go_loopg [10, 11] b (fun kx s10 s11 wr => ∃ (i j : Nat), s10 = .int .i64 i ∧ s11 = .int .i64 j ∧ m ≤ i ∧ i ≤ j ∧ j ≤ b ∧ Aside (kx = j - i + m) ∧ Aside (SB enc k w0 blk off d wr) ∧ Aside (Bin (fun q => ltOf cf d[q]! d[a]!) m b i j))
 case atStart => exact ⟨m, b, rfl, rfl, Nat.le_refl _, by omega, Nat.le_refl _, (show _ = _ by omega), S0, B0⟩
 case round =>
  clear S0 B0
  obtain ⟨i, j, rfl, rfl, hmi, hij, hjb, HK, S1, HB⟩ := hrel
  by_cases hlt : i < j
  ·have hltz : (i : Int) < (j : Int) := by omega
   obtain ⟨h, hh, hih, hhj⟩ := half_nat i j (by omega) hlt
   have pH : (0 : Int) ≤ (h : Int) := by omega
   have bH : (h : Int) < (d.size : Int) := by omega
   have bA : (a : Int) < (d.size : Int) := by omega
   have lh : ∀ p : SBW enc k w0 blk off d, Sem.run P (loadCellsFrom ⟨blk, off + h * k, none⟩ 0 k #[]) p.w = .ok (enc d[h]!).toArray p.w := fun p => p.h.load RR.out HS.out.symm P h (by omega)
   have la : ∀ p : SBW enc k w0 blk off d, Sem.run P (loadCellsFrom ⟨blk, off + a * k, none⟩ 0 k #[]) p.w = .ok (enc d[a]!).toArray p.w := fun p => p.h.load RR.out HS.out.symm P a (by omega)
   have hcg : ∀ p : SBW enc k w0 blk off d, Calls P g (#[.agg (enc d[h]!).toArray, .agg (enc d[a]!).toArray] ++ cb) p.w fun e w' => e = .returned (.int .i64 (cf d[h]! d[a]!)) ∧ ∃ q : SBW enc k w0 blk off d, w' = q.w := fun p => HC.out.at p rfl _ _
   have HR : Aside (∀ v, ltOf cf d[h]! d[a]! = v → (if v = true then Bin (fun q => ltOf cf d[q]! d[a]!) m b (h + 1) j else Bin (fun q => ltOf cf d[q]! d[a]!) m b i h)) := fun v hv => by
    cases v with
    | true => exact HB.out.right hih hhj hv
    | false => exact HB.out.left hih hhj hv
   obtain ⟨x, hx⟩ : ∃ x, d[h]! = x := ⟨_, rfl⟩
   obtain ⟨y, hy⟩ : ∃ y, d[a]! = y := ⟨_, rfl⟩
   rw [hx] at lh hcg
   rw [hy] at la hcg
   have HX : Aside (d[h]! = x) := hx
   have HY : Aside (d[a]! = y) := hy
   clear hx hy
   by_cases hlv : cf x y < 0
   ·have HL : Aside (ltOf cf d[h]! d[a]! = true) := by show _ = _; rw [HX.out, HY.out]; exact decide_eq_true hlv
    go_wp2_with fail
    haveI : Inhabited (SBW enc k w0 blk off d) := ⟨⟨_, S1.out⟩⟩
    refine wp_region_sb S1.out (by assumption) (by kernel_rfl) ?_
    repeat (quiet_step ((go_at_fn g; exact hcg _)))
    refine wpQuiet_nil ?_
    intro _ hw'
    obtain ⟨p, rfl⟩ := hw'
    go_wp2_with fail
    go_roundg (j - (h + 1) + m)
    case measure => have := HK.out; omega
    case rel => exact ⟨h + 1, j, by go_num, rfl, by omega, by omega, hjb, rfl, p.h, HR.out true HL.out⟩
   ·have HL : Aside (ltOf cf d[h]! d[a]! = false) := by show _ = _; rw [HX.out, HY.out]; exact decide_eq_false hlv
    go_wp2_with fail
    haveI : Inhabited (SBW enc k w0 blk off d) := ⟨⟨_, S1.out⟩⟩
    refine wp_region_sb S1.out (by assumption) (by kernel_rfl) ?_
    repeat (quiet_step ((go_at_fn g; exact hcg _)))
    refine wpQuiet_nil ?_
    intro _ hw'
    obtain ⟨p, rfl⟩ := hw'
    go_wp2_with fail
    go_roundg (h - i + m)
    case measure => have := HK.out; omega
    case rel => exact ⟨i, h, rfl, rfl, hmi, by omega, by omega, rfl, p.h, HR.out false HL.out⟩
  ·have hi : j = i := by omega
   subst hi
   have HD : Aside (MvR (pre ++ (merge (ltOf cf) U V ++ post)) j a d) := HT.out.one_left HO.out HM.out HB.out
   clear HB HK
   go_wp2_with fail
   go_loopg [13] (j - a) (fun kx s13 wr2 => ∃ (q : Nat) (dk : Array α), s13 = .int .i64 q ∧ a ≤ q ∧ q + 1 ≤ j ∧ Aside (kx = j - q) ∧ dk.size = d.size ∧ Aside (SB enc k w0 blk off dk wr2) ∧ Aside (MvR (pre ++ (merge (ltOf cf) U V ++ post)) j q dk))
   case atStart => exact ⟨a, d, rfl, Nat.le_refl _, by omega, rfl, rfl, S1, HD⟩
   case round =>
    clear S1 HD
    obtain ⟨q, dk, rfl, haq, hqj, HK, hds, S1, HD⟩ := hrel
    by_cases hq : q + 1 < j
    ·have hqz : (q : Int) < (j : Int) - 1 := by omega
     have e0 : ((q : Int) + 1).toNat = q + 1 := by omega
     have p0 : (0 : Int) ≤ (q : Int) + 1 := by omega
     have b0 : (q : Int) + 1 < (d.size : Int) := by omega
     have b1 : (q : Int) < (d.size : Int) := by omega
     go_wp2_with fail
     have S2 : Aside (SB enc k w0 blk off (swp dk q (q + 1)) ((wr.drew.setCells blk (off + q * k) (enc dk[q + 1]!)).setCells blk (off + (q + 1) * k) (enc dk[q]!))) := S1.out.swapped RR.out q (q + 1) (by omega) (by omega)
     have la := S1.out.ld1 RR.out (by have := HS.out; omega) P q (by omega)
     have lb := S1.out.ld1 RR.out (by have := HS.out; omega) P (q + 1) (by omega)
     have sa := S1.out.st1 RR.out (by have := HS.out; omega) P q (by omega) dk[q + 1]!
     have sb := S1.out.st2 RR.out (by have := HS.out; omega) P q (q + 1) (by omega) (by omega) dk[q + 1]! dk[q]!
     have na : (enc dk[q]!).length = k := RR.out.hk _
     have nb : (enc dk[q + 1]!).length = k := RR.out.hk _
     generalize enc dk[q]! = cI at S2 la sb na
     generalize enc dk[q + 1]! = cJ at S2 lb sa sb nb
     clear S1
     go_big_region_o
     clear la lb sa sb
     generalize (wr.drew.setCells blk (off + q * k) cJ).setCells blk (off + (q + 1) * k) cI = w2 at S2 ⊢
     go_wp2
     go_roundg (j - (q + 1))
     case measure => have := HK.out; omega
     case rel => exact ⟨q + 1, swp dk q (q + 1), by go_num, by omega, by omega, rfl, by rw [size_swp]; exact hds, S2, HD.out.step hq⟩
    ·have hqz : ¬ (q : Int) < (j : Int) - 1 := by omega
     go_wp2
     refine bodyPost_ret (results_none rfl _ _ _) rfl ?_
     exact ⟨rfl, dk, HD.out.done hq, hds, S1.out⟩
variable {P : Program} {α : Type} [Inhabited α]
theorem symRight_w (L : StLays P) (k : Nat) (aE : ∀ w, (isAgg 37).run P w = .ok true w) (zE : ∀ w, (Go.sizeOf 37).run P w = .ok k w) (enc : α → List Value) (cf : α → α → Int) (g : Nat) (cb : Array Value) (eg : ∀ args w, (callFunc g args).run P w = .ok (.enter g args) w)
  (blk off cap a m b : Nat) (d0 d : Array α) (w0 w : World)
  (R : RowK enc k w0 blk off d0) (hs : d0.size = d.size) (hC : CmpB P g cb enc k cf blk off d.size w0) (O : Stable.Ord (ltOf cf)) (S : SB enc k w0 blk off d w) (ham : a + 1 < m) (hm : b = m + 1) (hb : b ≤ d.size) (hsz : d.size < 4611686018427387904)
  (pre U V post : List α) (T : Two (ltOf cf) a m b pre U V post d) :
  Calls P 168 #[.slice (some ⟨blk, off, none⟩) d.size cap, .int .i64 a, .int .i64 m, .int .i64 b, .func (.func g) #[] cb] w fun e w' => e = .returned (.tuple #[]) ∧ ∃ d', d'.toList = pre ++ (merge (ltOf cf) U V ++ post) ∧ d'.size = d.size ∧ SB enc k w0 blk off d' w' := by
 have mixed := L.mixed; have t3 := L.t3; have a3 := L.a3; have z3 := L.z3; have v3 := L.v3; have t4 := L.t4; have a4 := L.a4; have z4 := L.z4; have v4 := L.v4; have t53 := L.t53; have a53 := L.a53; have z53 := L.z53; have t22 := L.t22; have a22 := L.a22; have z22 := L.z22; have t45 := L.t45
 have FG := L.f34
 have S0 : Aside (SB enc k w0 blk off d w) := S
 have HC : Aside (CmpB P g cb enc k cf blk off d.size w0) := hC
 have HT : Aside (Two (ltOf cf) a m b pre U V post d) := T
 have HO : Aside (Stable.Ord (ltOf cf)) := O
 have B0 : Aside (Bin (fun q => !ltOf cf d[m]! d[q]!) a m a m) := Bin.start (T.mono2 O) (by omega)
 have HM : Aside (b = m + 1) := hm
 have am : a < m := by omega
 have mb : m < b := by omega
 have tm : ((m : Int) - (a : Int) == 1) = false := by rw [beq_eq_false_iff_ne]; omega
 have tm2 : ((b : Int) - (m : Int) == 1) = true := by rw [beq_iff_eq]; omega
 have RR : Aside (RowK enc k w0 blk off d0) := R
 have HS : Aside (d0.size = d.size) := hs
 clear S hC T O hm L hs R
 go_enter FG, Tryz.ntmps168
 go_wp2_with fail
 go_loopg [14, 15] m (fun kx s10 s11 wr => ∃ (i j : Nat), s10 = .int .i64 i ∧ s11 = .int .i64 j ∧ a ≤ i ∧ i ≤ j ∧ j ≤ m ∧ Aside (kx = j - i + a) ∧ Aside (SB enc k w0 blk off d wr) ∧ Aside (Bin (fun q => !ltOf cf d[m]! d[q]!) a m i j))
 case atStart => exact ⟨a, m, rfl, rfl, Nat.le_refl _, by omega, Nat.le_refl _, (show _ = _ by omega), S0, B0⟩
 case round =>
  clear S0 B0
  obtain ⟨i, j, rfl, rfl, hmi, hij, hjb, HK, S1, HB⟩ := hrel
  by_cases hlt : i < j
  ·have hltz : (i : Int) < (j : Int) := by omega
   obtain ⟨h, hh, hih, hhj⟩ := half_nat i j (by omega) hlt
   have pH : (0 : Int) ≤ (h : Int) := by omega
   have bH : (h : Int) < (d.size : Int) := by omega
   have bA : (m : Int) < (d.size : Int) := by omega
   have lh : ∀ p : SBW enc k w0 blk off d, Sem.run P (loadCellsFrom ⟨blk, off + h * k, none⟩ 0 k #[]) p.w = .ok (enc d[h]!).toArray p.w := fun p => p.h.load RR.out HS.out.symm P h (by omega)
   have la : ∀ p : SBW enc k w0 blk off d, Sem.run P (loadCellsFrom ⟨blk, off + m * k, none⟩ 0 k #[]) p.w = .ok (enc d[m]!).toArray p.w := fun p => p.h.load RR.out HS.out.symm P m (by omega)
   have hcg : ∀ p : SBW enc k w0 blk off d, Calls P g (#[.agg (enc d[m]!).toArray, .agg (enc d[h]!).toArray] ++ cb) p.w fun e w' => e = .returned (.int .i64 (cf d[m]! d[h]!)) ∧ ∃ q : SBW enc k w0 blk off d, w' = q.w := fun p => HC.out.at p rfl _ _
   have HR : Aside (∀ v, ltOf cf d[m]! d[h]! = v → (if v = true then Bin (fun q => !ltOf cf d[m]! d[q]!) a m i h else Bin (fun q => !ltOf cf d[m]! d[q]!) a m (h + 1) j)) := fun v hv => by
    cases v with
    | true => exact HB.out.left hih hhj (by simp [hv])
    | false => exact HB.out.right hih hhj (by simp [hv])
   obtain ⟨x, hx⟩ : ∃ x, d[h]! = x := ⟨_, rfl⟩
   obtain ⟨y, hy⟩ : ∃ y, d[m]! = y := ⟨_, rfl⟩
   rw [hx] at lh hcg
   rw [hy] at la hcg
   have HX : Aside (d[h]! = x) := hx
   have HY : Aside (d[m]! = y) := hy
   clear hx hy
   by_cases hlv : cf y x < 0
   ·have HL : Aside (ltOf cf d[m]! d[h]! = true) := by show _ = _; rw [HY.out, HX.out]; exact decide_eq_true hlv
    go_wp2_with fail
    haveI : Inhabited (SBW enc k w0 blk off d) := ⟨⟨_, S1.out⟩⟩
    refine wp_region_sb S1.out (by assumption) (by kernel_rfl) ?_
    repeat (quiet_step ((go_at_fn g; exact hcg _)))
    refine wpQuiet_nil ?_
    intro _ hw'
    obtain ⟨p, rfl⟩ := hw'
    go_wp2_with fail
    go_roundg (h - i + a)
    case measure => have := HK.out; omega
    case rel => exact ⟨i, h, rfl, rfl, hmi, by omega, by omega, rfl, p.h, HR.out true HL.out⟩
   ·have HL : Aside (ltOf cf d[m]! d[h]! = false) := by show _ = _; rw [HY.out, HX.out]; exact decide_eq_false hlv
    have hdn : decide (cf y x < 0) = false := decide_eq_false hlv
    go_wp2_with fail
    haveI : Inhabited (SBW enc k w0 blk off d) := ⟨⟨_, S1.out⟩⟩
    refine wp_region_sb S1.out (by assumption) (by kernel_rfl) ?_
    repeat (quiet_step ((go_at_fn g; exact hcg _)))
    refine wpQuiet_nil ?_
    intro _ hw'
    obtain ⟨p, rfl⟩ := hw'
    go_wp2_with fail
    go_roundg (j - (h + 1) + a)
    case measure => have := HK.out; omega
    case rel => exact ⟨h + 1, j, by go_num, rfl, by omega, by omega, hjb, rfl, p.h, HR.out false HL.out⟩
  ·have hi : j = i := by omega
   subst hi
   have HD : Aside (MvL (pre ++ (merge (ltOf cf) U V ++ post)) j m d) := HT.out.one_right HO.out HM.out HB.out
   clear HB HK
   go_wp2_with fail
   go_loopg [17] (m - j) (fun kx s17 wr2 => ∃ (q : Nat) (dk : Array α), s17 = .int .i64 q ∧ q ≤ m ∧ j ≤ q ∧ Aside (kx = q - j) ∧ dk.size = d.size ∧ Aside (SB enc k w0 blk off dk wr2) ∧ Aside (MvL (pre ++ (merge (ltOf cf) U V ++ post)) j q dk))
   case atStart => exact ⟨m, d, rfl, Nat.le_refl _, by omega, rfl, rfl, S1, HD⟩
   case round =>
    clear S1 HD
    obtain ⟨q, dk, rfl, haq, hqj, HK, hds, S1, HD⟩ := hrel
    by_cases hq : j < q
    ·obtain ⟨q, rfl⟩ : ∃ r, q = r + 1 := ⟨q - 1, by omega⟩
     have hqz : (j : Int) < (q : Int) + 1 := by omega
     have e0 : ((q : Int) + 1).toNat = q + 1 := by omega
     have p0 : (0 : Int) ≤ (q : Int) + 1 := by omega
     have b0 : (q : Int) + 1 < (d.size : Int) := by omega
     have b1 : (q : Int) < (d.size : Int) := by omega
     have hwp : IntKind.i64.wrap (q : Int) = (q : Int) := by rw [IntKind.wrap_i64]; omega
     go_wp2_with fail
     have S2 : Aside (SB enc k w0 blk off (swp dk (q + 1) q) ((wr.drew.setCells blk (off + (q + 1) * k) (enc dk[q]!)).setCells blk (off + q * k) (enc dk[q + 1]!))) := S1.out.swapped RR.out (q + 1) q (by omega) (by omega)
     have la := S1.out.ld1 RR.out (by have := HS.out; omega) P (q + 1) (by omega)
     have lb := S1.out.ld1 RR.out (by have := HS.out; omega) P q (by omega)
     have sa := S1.out.st1 RR.out (by have := HS.out; omega) P (q + 1) (by omega) dk[q]!
     have sb := S1.out.st2 RR.out (by have := HS.out; omega) P (q + 1) q (by omega) (by omega) dk[q]! dk[q + 1]!
     have na : (enc dk[q + 1]!).length = k := RR.out.hk _
     have nb : (enc dk[q]!).length = k := RR.out.hk _
     generalize enc dk[q + 1]! = cI at S2 la sb na
     generalize enc dk[q]! = cJ at S2 lb sa sb nb
     clear S1
     go_big_region_o
     clear la lb sa sb
     generalize (wr.drew.setCells blk (off + (q + 1) * k) cJ).setCells blk (off + q * k) cI = w2 at S2 ⊢
     go_wp2
     go_roundg (q - j)
     case measure => have := HK.out; omega
     case rel => exact ⟨q, swp dk (q + 1) q, by go_num, by omega, by omega, rfl, by rw [size_swp]; exact hds, S2, HD.out.step hq⟩
    ·have hqz : ¬ (j : Int) < (q : Int) := by omega
     go_wp2
     refine bodyPost_ret (results_none rfl _ _ _) rfl ?_
     exact ⟨rfl, dk, HD.out.done hq, hds, S1.out⟩
variable {P : Program} {α : Type} [Inhabited α]
theorem mid_way (a m b : Nat) (am : a < m) (mb : m < b) : ∃ mid lo hi : Nat, ((a : Int) + (b : Int)) / 2 = (mid : Int) ∧ Mid a m b mid lo hi ∧ ((mid < m ∧ (mid : Int) + (m : Int) - (b : Int) = (lo : Int) ∧ hi = mid) ∨ (¬ mid < m ∧ lo = a ∧ hi = m)) := by
 by_cases h : (a + b) / 2 < m
 ·exact ⟨(a + b) / 2, (a + b) / 2 + m - b, (a + b) / 2, by omega, ⟨am, mb, rfl, .inl ⟨h, by omega, rfl⟩⟩, .inl ⟨h, by omega, rfl⟩⟩
 ·exact ⟨(a + b) / 2, a, m, by omega, ⟨am, mb, rfl, .inr ⟨by omega, rfl, rfl⟩⟩, .inr ⟨h, rfl, rfl⟩⟩
/-- What a call of symMerge does. -/
def SymDoes (P : Program) (enc : α → List Value) (k : Nat) (lt : α → α → Bool) (g : Nat) (cb : Array Value) (blk off cap a m b : Nat) (d : Array α) (w0 w : World) : Prop :=
 ∀ pre U V post : List α, Two lt a m b pre U V post d → Calls P 168 #[.slice (some ⟨blk, off, none⟩) d.size cap, .int .i64 a, .int .i64 m, .int .i64 b, .func (.func g) #[] cb] w fun e w' => e = .returned (.tuple #[]) ∧ ∃ d', d'.toList = pre ++ (merge lt U V ++ post) ∧ d'.size = d.size ∧ SB enc k w0 blk off d' w'
theorem symMid_w (L : StLays P) (k : Nat) (aE : ∀ w, (isAgg 37).run P w = .ok true w) (zE : ∀ w, (Go.sizeOf 37).run P w = .ok k w) (enc : α → List Value) (cf : α → α → Int) (g : Nat) (cb : Array Value) (eg : ∀ args w, (callFunc g args).run P w = .ok (.enter g args) w)
  (blk off cap a m b : Nat) (d0 d : Array α) (w0 w : World)
  (R : RowK enc k w0 blk off d0) (hs : d0.size = d.size) (hC : CmpB P g cb enc k cf blk off d.size w0) (O : Stable.Ord (ltOf cf)) (S : SB enc k w0 blk off d w) (ham : a + 1 < m) (hmb : m + 1 < b) (hb : b ≤ d.size) (hsz : d.size < 4611686018427387904)
  (pre U V post : List α) (T : Two (ltOf cf) a m b pre U V post d)
  (IH : ∀ (a' m' b' : Nat) (d' : Array α) (w' : World), b' - a' < b - a → d'.size = d.size → a' < m' → m' < b' → b' ≤ d.size → SB enc k w0 blk off d' w' → SymDoes P enc k (ltOf cf) g cb blk off cap a' m' b' d' w0 w') :
  Calls P 168 #[.slice (some ⟨blk, off, none⟩) d.size cap, .int .i64 a, .int .i64 m, .int .i64 b, .func (.func g) #[] cb] w fun e w' => e = .returned (.tuple #[]) ∧ ∃ d', d'.toList = pre ++ (merge (ltOf cf) U V ++ post) ∧ d'.size = d.size ∧ SB enc k w0 blk off d' w' := by
 obtain ⟨mid, lo, hi, hmid, M, way⟩ := mid_way a m b (by omega) (by omega)
 obtain ⟨f1, f2, f3, f4, f5, f6, f7⟩ := M.facts
 have B0 : Aside (Bin (fun c => !ltOf cf d[mid + m - 1 - c]! d[c]!) lo hi lo hi) := Bin.start (T.mono3 O f1 f3 f7) f2
 have F7 := aside (f7)
 have mixed := L.mixed; have t3 := L.t3; have a3 := L.a3; have z3 := L.z3; have v3 := L.v3; have t4 := L.t4; have a4 := L.a4; have z4 := L.z4; have v4 := L.v4; have t53 := L.t53; have a53 := L.a53; have z53 := L.z53; have t22 := L.t22; have a22 := L.a22; have z22 := L.z22; have t45 := L.t45
 have FG := L.f34
 have e34 := L.e34
 have e36 := L.e36
 have S0 : Aside (SB enc k w0 blk off d w) := S
 have HC : Aside (CmpB P g cb enc k cf blk off d.size w0) := hC
 have HT : Aside (Two (ltOf cf) a m b pre U V post d) := T
 have HO : Aside (Stable.Ord (ltOf cf)) := O
 have HM : Aside (Mid a m b mid lo hi) := M
 have HI := aside (IH)
 have tm : ((m : Int) - (a : Int) == 1) = false := by rw [beq_eq_false_iff_ne]; omega
 have tm2 : ((b : Int) - (m : Int) == 1) = false := by rw [beq_eq_false_iff_ne]; omega
 have RR : Aside (RowK enc k w0 blk off d0) := R
 have HS : Aside (d0.size = d.size) := hs
 have LL : Aside (StLays P) := L
 clear S hC T O M L hs R IH f7
 go_enter FG, Tryz.ntmps168
 have WAY := aside (way)
 have pp : ∃ pp : Nat, (mid : Int) + (m : Int) - 1 = (pp : Int) ∧ pp = mid + m - 1 := ⟨mid + m - 1, by omega, rfl⟩
 obtain ⟨pp, epp, hpp⟩ := pp
 have HPP := aside (hpp)
 have hpl : pp < d.size + d.size := by omega
 clear way hpp
 go_upto_if 140 with fail
 go_cut [20, 21] from 138 to 146 (fun s20 s21 wx => s20 = .int .i64 lo ∧ s21 = .int .i64 hi ∧ wx = w)
 case first =>
  rcases WAY.out with ⟨w1, eLo, rfl⟩ | ⟨w1, rfl, rfl⟩
  ·go_wp2_with fail
   go_meet
   exact ⟨rfl, rfl, rfl⟩
  ·go_wp2_with fail
   go_meet
   exact ⟨rfl, rfl, rfl⟩
 case rest =>
  obtain ⟨rfl, rfl, rfl⟩ := hcut
  clear WAY
  go_wp2_with fail
  go_loopg [20, 21] (hi - lo) (fun kx s20 s21 wr => ∃ (i j : Nat), s20 = .int .i64 i ∧ s21 = .int .i64 j ∧ lo ≤ i ∧ i ≤ j ∧ j ≤ hi ∧ Aside (kx = j - i) ∧ Aside (SB enc k w0 blk off d wr) ∧ Aside (Bin (fun c => !ltOf cf d[mid + m - 1 - c]! d[c]!) lo hi i j))
  case atStart => exact ⟨lo, hi, rfl, rfl, Nat.le_refl _, f2, Nat.le_refl _, rfl, S0, B0⟩
  case round =>
   clear S0 B0
   obtain ⟨i, j, rfl, rfl, hmi, hij, hjb, HK, S1, HB⟩ := hrel
   by_cases hlt : i < j
   ·have hltz : (i : Int) < (j : Int) := by omega
    obtain ⟨c, hh, hih, hhj⟩ := half_nat i j (by omega) hlt
    obtain ⟨g1, g2, g3⟩ := F7.out c (by omega) (by omega)
    have q1 : c ≤ pp := by have := HPP.out; omega
    have q2 : pp - c < b := by have := HPP.out; omega
    have q3 : mid + m - 1 - c = pp - c := by have := HPP.out; omega
    have Q3 := aside (q3)
    clear g1 g2 g3 q3
    have e0 : ((pp : Int) - (c : Int)).toNat = pp - c := by omega
    have p0 : (0 : Int) ≤ (pp : Int) - (c : Int) := by omega
    have rP : IntKind.i64.wrap ((pp : Int) - (c : Int)) = (pp : Int) - (c : Int) := by rw [IntKind.wrap_i64]; omega
    have b0 : (pp : Int) - (c : Int) < (d.size : Int) := by omega
    have pH : (0 : Int) ≤ (c : Int) := by omega
    have bH : (c : Int) < (d.size : Int) := by omega
    have lh : ∀ p : SBW enc k w0 blk off d, Sem.run P (loadCellsFrom ⟨blk, off + (pp - c) * k, none⟩ 0 k #[]) p.w = .ok (enc d[pp - c]!).toArray p.w := fun p => p.h.load RR.out HS.out.symm P (pp - c) (by omega)
    have la : ∀ p : SBW enc k w0 blk off d, Sem.run P (loadCellsFrom ⟨blk, off + c * k, none⟩ 0 k #[]) p.w = .ok (enc d[c]!).toArray p.w := fun p => p.h.load RR.out HS.out.symm P c (by omega)
    have hcg : ∀ p : SBW enc k w0 blk off d, Calls P g (#[.agg (enc d[pp - c]!).toArray, .agg (enc d[c]!).toArray] ++ cb) p.w fun e w' => e = .returned (.int .i64 (cf d[pp - c]! d[c]!)) ∧ ∃ q : SBW enc k w0 blk off d, w' = q.w := fun p => HC.out.at p rfl _ _
    have HR : Aside (∀ v, ltOf cf d[pp - c]! d[c]! = v → (if v = true then Bin (fun c => !ltOf cf d[mid + m - 1 - c]! d[c]!) lo hi i c else Bin (fun c => !ltOf cf d[mid + m - 1 - c]! d[c]!) lo hi (c + 1) j)) := fun v hv => by
     cases v with
     | true => exact HB.out.left hih hhj (by simp only [Q3.out]; simp [hv])
     | false => exact HB.out.right hih hhj (by simp only [Q3.out]; simp [hv])
    obtain ⟨x, hx⟩ : ∃ x, d[pp - c]! = x := ⟨_, rfl⟩
    obtain ⟨y, hy⟩ : ∃ y, d[c]! = y := ⟨_, rfl⟩
    rw [hx] at lh hcg
    rw [hy] at la hcg
    have HX : Aside (d[pp - c]! = x) := hx
    have HY : Aside (d[c]! = y) := hy
    clear hx hy
    by_cases hlv : cf x y < 0
    ·have HL : Aside (ltOf cf d[pp - c]! d[c]! = true) := by show _ = _; rw [HX.out, HY.out]; exact decide_eq_true hlv
     go_wp2_with fail
     haveI : Inhabited (SBW enc k w0 blk off d) := ⟨⟨_, S1.out⟩⟩
     refine wp_region_sb S1.out (by assumption) (by kernel_rfl) ?_
     repeat (quiet_step ((go_at_fn g; exact hcg _)))
     refine wpQuiet_nil ?_
     intro _ hw'
     obtain ⟨p, rfl⟩ := hw'
     go_wp2_with fail
     go_roundg (c - i)
     case measure => have := HK.out; omega
     case rel => exact ⟨i, c, rfl, rfl, hmi, by omega, by omega, rfl, p.h, HR.out true HL.out⟩
    ·have HL : Aside (ltOf cf d[pp - c]! d[c]! = false) := by show _ = _; rw [HX.out, HY.out]; exact decide_eq_false hlv
     have hdn : decide (cf x y < 0) = false := decide_eq_false hlv
     go_wp2_with fail
     haveI : Inhabited (SBW enc k w0 blk off d) := ⟨⟨_, S1.out⟩⟩
     refine wp_region_sb S1.out (by assumption) (by kernel_rfl) ?_
     repeat (quiet_step ((go_at_fn g; exact hcg _)))
     refine wpQuiet_nil ?_
     intro _ hw'
     obtain ⟨p, rfl⟩ := hw'
     go_wp2_with fail
     go_roundg (j - (c + 1))
     case measure => have := HK.out; omega
     case rel => exact ⟨c + 1, j, by go_num, rfl, by omega, by omega, hjb, rfl, p.h, HR.out false HL.out⟩
   ·have hi' : j = i := by omega
    subst hi'
    have hP : Parts (ltOf cf) a m b mid j (mid + m - j) U V := HT.out.parts HO.out HM.out HB.out
    have HP : Aside (Parts (ltOf cf) a m b mid j (mid + m - j) U V) := hP
    have eE : ∃ e : Nat, (mid : Int) + (m : Int) - (j : Int) = (e : Int) ∧ mid + m - j = e := ⟨mid + m - j, by omega, rfl⟩
    obtain ⟨e, eE, he⟩ := eE
    rw [he] at hP HP
    have k1 := hP.sa; have k2 := hP.sm; have k3 := hP.smid; have k4 := hP.me; have k5 := hP.eb; have k6 := hP.mide
    clear HB HK he hP F7
    go_upto_region 39 with fail
    go_cut [185] from 178 to 184 (fun s wx => s = .bool (decide (j < m) && decide (m < e)) ∧ wx = wr)
    case first =>
     by_cases h1 : j < m
     ·go_wp2_with fail
      go_meet
      exact ⟨by simp [h1], rfl⟩
     ·go_wp2_with fail
      go_meet
      exact ⟨by simp [h1], rfl⟩
    case rest =>
     obtain ⟨rfl, rfl⟩ := hcut
     go_upto_if 185 with fail
     go_cut [] from 185 to 191 (fun wx => ∃ d1 : Array α, Aside (St1 U V pre post a m j e d.size d1) ∧ Aside (SB enc k w0 blk off d1 wx))
     case first =>
      by_cases h1 : j < m
      ·by_cases h2 : m < e
       ·have hc := rotate_w LL.out k aE zE enc g cb blk off cap j m e d0 d w0 _ RR.out HS.out S1.out h1 h2 (by omega) hsz _ (HP.out.left HT.out.la HT.out.list)
        have HC2 := aside (hc)
        clear hc
        go_wp2_with (go_at_fn 177; refine HC2.out.mono ?_; rintro e1 w1 ⟨rfl, d1, hd1, hd2, hd3⟩)
        go_meet
        exact ⟨d1, ⟨hd1, hd2⟩, hd3⟩
       ·go_wp2_with fail
        go_meet
        exact ⟨d, HP.out.st1_none HT.out.list rfl (fun h => h2 h.2), S1⟩
      ·go_wp2_with fail
       go_meet
       exact ⟨d, HP.out.st1_none HT.out.list rfl (fun h => h1 h.1), S1⟩
     case rest =>
      clear S1
      obtain ⟨d1, HD1, S1⟩ := hcut
      go_upto_region 41 with fail
      go_cut [199] from 192 to 198 (fun s wx => s = .bool (decide (a < j) && decide (j < mid)) ∧ wx = wc)
      case first =>
       by_cases h1 : a < j
       ·go_wp2_with fail
        go_meet
        exact ⟨by simp [h1], rfl⟩
       ·go_wp2_with fail
        go_meet
        exact ⟨by simp [h1], rfl⟩
      case rest =>
       obtain ⟨rfl, rfl⟩ := hcut
       go_upto_if 199 with fail
       go_cut [] from 199 to 205 (fun wx => ∃ d2 : Array α, Aside (St2 (ltOf cf) U V pre post a m j e d.size d2) ∧ Aside (SB enc k w0 blk off d2 wx))
       case first =>
        by_cases h1 : a < j
        ·by_cases h2 : j < mid
         ·have hc := HI.out a j mid d1 _ (by omega) HD1.out.2 h1 h2 (by omega) S1.out _ _ _ _ (HD1.out.two HP.out HT.out.la)
          rw [HD1.out.2] at hc
          have HC2 := aside (hc)
          clear hc
          go_wp2_with (go_at_fn 168; refine HC2.out.mono ?_; rintro e1 w1 ⟨rfl, d2, hd1, hd2, hd3⟩)
          go_meet
          exact ⟨d2, St2.of hd1 hd2, hd3⟩
         ·go_wp2_with fail
          go_meet
          exact ⟨d1, HD1.out.none HP.out (fun h => h2 h.2), S1⟩
        ·go_wp2_with fail
         go_meet
         exact ⟨d1, HD1.out.none HP.out (fun h => h1 h.1), S1⟩
       case rest =>
        clear S1 HD1
        obtain ⟨d2, HD2, S2⟩ := hcut
        by_cases h1 : mid < e
        ·by_cases h2 : e < b
         ·have hc := HI.out mid e b d2 _ (by omega) HD2.out.2 h1 h2 (by omega) S2.out _ _ _ _ (HD2.out.two HP.out HT.out.la)
          rw [HD2.out.2] at hc
          have HC2 := aside (hc)
          clear hc
          go_wp2_with (go_at_fn 168; refine HC2.out.mono ?_; rintro e1 w1 ⟨rfl, d3, hd1, hd2, hd3⟩)
          go_end0
          have h3 := St3.of (post := post) (n := d.size) HP.out hd1 hd2
          exact ⟨rfl, d3, h3.1, h3.2, hd3⟩
         ·go_wp2_with fail
          go_end0
          have h3 := HD2.out.none HP.out (fun h => h2 h.2)
          exact ⟨rfl, d2, h3.1, h3.2, S2.out⟩
        ·go_wp2_with fail
         go_end0
         have h3 := HD2.out.none HP.out (fun h => h1 h.1)
         exact ⟨rfl, d2, h3.1, h3.2, S2.out⟩
/-- Two sorted neighbours in one. -/
theorem symMerge_w (L : StLays P) (k : Nat) (aE : ∀ w, (isAgg 37).run P w = .ok true w) (zE : ∀ w, (Go.sizeOf 37).run P w = .ok k w) (enc : α → List Value) (cf : α → α → Int) (g : Nat) (cb : Array Value) (eg : ∀ args w, (callFunc g args).run P w = .ok (.enter g args) w)
  (blk off cap n : Nat) (d0 : Array α) (w0 : World) (R : RowK enc k w0 blk off d0) (hs : d0.size = n) (hC : CmpB P g cb enc k cf blk off n w0) (O : Stable.Ord (ltOf cf)) (hsz : n < 4611686018427387904) :
  ∀ (q a m b : Nat) (d : Array α) (w : World), b - a ≤ q → d.size = n → a < m → m < b → b ≤ n → SB enc k w0 blk off d w → SymDoes P enc k (ltOf cf) g cb blk off cap a m b d w0 w
 | 0, a, m, b, d, w, hq, _, h1, h2, _, _ => by omega
 | q + 1, a, m, b, d, w, hq, hd, h1, h2, hb, S => by
  subst hd
  intro pre U V post T
  by_cases c1 : m = a + 1
  ·exact symLeft_w L k aE zE enc cf g cb eg blk off cap a m b d0 d w0 w R hs hC O S c1 h2 hb hsz pre U V post T
  ·by_cases c2 : b = m + 1
   ·exact symRight_w L k aE zE enc cf g cb eg blk off cap a m b d0 d w0 w R hs hC O S (by omega) c2 hb hsz pre U V post T
   ·exact symMid_w L k aE zE enc cf g cb eg blk off cap a m b d0 d w0 w R hs hC O S (by omega) (by omega) hb hsz pre U V post T
     (fun a' m' b' d' w' hlt hd' x1 x2 x3 S' => symMerge_w L k aE zE enc cf g cb eg blk off cap _ d0 w0 R hs hC O hsz q a' m' b' d' w' (by omega) hd' x1 x2 (by omega) S')
variable {P : Program} {α : Type} [Inhabited α]
theorem insertion_w (L : StLays P) (k : Nat) (aE : ∀ w, (isAgg 37).run P w = .ok true w) (zE : ∀ w, (Go.sizeOf 37).run P w = .ok k w) (enc : α → List Value) (cf : α → α → Int) (g : Nat) (cb : Array Value) (eg : ∀ args w, (callFunc g args).run P w = .ok (.enter g args) w)
  (blk off cap a b n : Nat) (d0 d : Array α) (w0 w : World)
  (R : RowK enc k w0 blk off d0) (hs : d0.size = n) (hn : d.size = n) (hC : CmpB P g cb enc k cf blk off n w0) (O : Stable.Ord (ltOf cf)) (S : SB enc k w0 blk off d w) (hsz : n < 4611686018427387904)
  (pre seg post : List α) (T : d.toList = pre ++ (seg ++ post)) (la : pre.length = a) (lb : seg.length + a = b) :
  Calls P 167 #[.slice (some ⟨blk, off, none⟩) n cap, .int .i64 a, .int .i64 b, .func (.func g) #[] cb] w fun e w' => e = .returned (.tuple #[]) ∧ ∃ d', d'.toList = pre ++ (isort (ltOf cf) seg ++ post) ∧ d'.size = n ∧ SB enc k w0 blk off d' w' := by
 have hbn : b ≤ n := by
  have h1 : d.toList.length = n := by rw [Array.length_toList]; exact hn
  rw [T] at h1; simp at h1; omega
 have mixed := L.mixed; have t3 := L.t3; have a3 := L.a3; have z3 := L.z3; have v3 := L.v3; have t4 := L.t4; have a4 := L.a4; have z4 := L.z4; have v4 := L.v4; have t22 := L.t22; have a22 := L.a22; have z22 := L.z22; have t45 := L.t45
 have FG := L.f33
 have HC : Aside (CmpB P g cb enc k cf blk off n w0) := hC
 have HO : Aside (Stable.Ord (ltOf cf)) := O
 have RR : Aside (RowK enc k w0 blk off d0) := R
 have HS : Aside (d0.size = n) := hs
 have S0 : Aside (SB enc k w0 blk off d w) := S
 have T0 : Aside (Outer (ltOf cf) pre seg post a (a + 1) d) := Outer.start T
 have LA : Aside (pre.length = a) := la
 have LB : Aside (seg.length + a = b) := lb
 have hab : a ≤ b := by omega
 have HN : Aside (d.size = n) := hn
 clear hC O R hs S T la lb L hn
 go_enter FG, Tryz.ntmps167
 go_wp2_with fail
 go_loopg [8] (b - a) (fun g1 vi wr => ∃ (i : Nat) (dk : Array α), vi = .int .i64 i ∧ a < i ∧ i ≤ b + 1 ∧ b + 1 - i ≤ g1 + 1 ∧ Aside (dk.size = n) ∧ Aside (SB enc k w0 blk off dk wr) ∧ Aside (Outer (ltOf cf) pre seg post a i dk))
 case atStart => exact ⟨a + 1, d, by go_num, by omega, by omega, by omega, HN, S0, T0⟩
 case round =>
  clear S0 T0 HN
  obtain ⟨i, dk, rfl, hai, hib, hg1, HN, S1, HT⟩ := hrel
  by_cases hlt : i < b
  ·have hltz : (i : Int) < (b : Int) := by omega
   obtain ⟨xi, hIns, hOut⟩ := HT.out.next hai (by have := LB.out; omega)
   have HI := aside hIns
   have HOU := aside hOut
   clear hIns hOut HT
   obtain ⟨wo, hwo⟩ : ∃ wo : World, wo = wr := ⟨_, rfl⟩
   subst hwo
   go_wp2_with fail
   go_loopg [9] i (fun g2 vj wr2 => ∃ (j : Nat) (dj : Array α), vj = .int .i64 j ∧ a ≤ j ∧ j ≤ i ∧ j ≤ g2 ∧ Aside (dj.size = n) ∧ Aside (SB enc k w0 blk off dj wr2) ∧ Aside (Ins (ltOf cf) pre (isort (ltOf cf) (seg.take (i - a))) (seg.drop (i + 1 - a) ++ post) xi a j dj))
   case atStart => exact ⟨i, dk, rfl, by omega, Nat.le_refl _, Nat.le_refl _, HN, S1, HI⟩
   case round =>
    clear HN S1 HI
    obtain ⟨j, dj, rfl, haj, hji, hg2, HN, S1, HI⟩ := hrel
    have out : (j ≤ a ∨ ltOf cf dj[j]! dj[j - 1]! = false) → Outer (ltOf cf) pre seg post a (i + 1) dj := fun hst => HOU.out dj (HI.out.done HO.out LA.out (isort_sorted HO.out _) hst)
    have OUT := aside out
    clear out
    by_cases hja : a < j
    ·have hjaz : (a : Int) < (j : Int) := by omega
     obtain ⟨jp, rfl⟩ : ∃ jp, j = jp + 1 := ⟨j - 1, by omega⟩
     have hwp : IntKind.i64.wrap (jp : Int) = (jp : Int) := by rw [IntKind.wrap_i64]; omega
     have jz : (jp : Int) + 1 < (n : Int) := by omega
     have jz1 : (jp : Int) < (n : Int) := by omega
     have hjaz' : (a : Int) < (jp : Int) + 1 := by omega
     have p0 : (0 : Int) ≤ (jp : Int) + 1 := by omega
     have e0 : ((jp : Int) + 1).toNat = jp + 1 := by omega
     have hsd : dj.size = d0.size := by rw [HN.out, HS.out]
     have lj : ∀ p : SBW enc k w0 blk off dj, Sem.run P (loadCellsFrom ⟨blk, off + (jp + 1) * k, none⟩ 0 k #[]) p.w = .ok (enc dj[jp + 1]!).toArray p.w := fun p => p.h.load RR.out hsd P (jp + 1) (by have := HN.out; omega)
     have lp : ∀ p : SBW enc k w0 blk off dj, Sem.run P (loadCellsFrom ⟨blk, off + jp * k, none⟩ 0 k #[]) p.w = .ok (enc dj[jp]!).toArray p.w := fun p => p.h.load RR.out hsd P jp (by have := HN.out; omega)
     have hcg : ∀ p : SBW enc k w0 blk off dj, Calls P g (#[.agg (enc dj[jp + 1]!).toArray, .agg (enc dj[jp]!).toArray] ++ cb) p.w fun e w' => e = .returned (.int .i64 (cf dj[jp + 1]! dj[jp]!)) ∧ ∃ q : SBW enc k w0 blk off dj, w' = q.w := fun p => HC.out.at p HN.out _ _
     have HSD := aside hsd
     clear hsd
     obtain ⟨x, hx⟩ : ∃ x, dj[jp + 1]! = x := ⟨_, rfl⟩
     obtain ⟨y, hy⟩ : ∃ y, dj[jp]! = y := ⟨_, rfl⟩
     rw [hx] at lj hcg
     rw [hy] at lp hcg
     have HX := aside hx
     have HY := aside hy
     clear hx hy
     by_cases hlv : cf x y < 0
     ·have HL : Aside (ltOf cf dj[jp + 1]! dj[jp]! = true) := by show _ = _; rw [HX.out, HY.out]; exact decide_eq_true hlv
      go_wp2_with fail
      haveI : Inhabited (SBW enc k w0 blk off dj) := ⟨⟨_, S1.out⟩⟩
      refine wp_region_sb S1.out (by assumption) (by kernel_rfl) ?_
      repeat (quiet_step ((go_at_fn g; exact hcg _)))
      refine wpQuiet_nil ?_
      intro _ hw'
      obtain ⟨p, rfl⟩ := hw'
      go_wp2_with fail
      have S2 : Aside (SB enc k w0 blk off (swp dj (jp + 1) jp) ((p.w.drew.setCells blk (off + (jp + 1) * k) (enc dj[jp]!)).setCells blk (off + jp * k) (enc dj[jp + 1]!))) := p.h.swapped RR.out (jp + 1) jp (by have := HN.out; omega) (by have := HN.out; omega)
      have la := p.h.ld1 RR.out HSD.out P (jp + 1) (by have := HN.out; omega)
      have lb := p.h.ld1 RR.out HSD.out P jp (by have := HN.out; omega)
      have sa := p.h.st1 RR.out HSD.out P (jp + 1) (by have := HN.out; omega) dj[jp]!
      have sb := p.h.st2 RR.out HSD.out P (jp + 1) jp (by have := HN.out; omega) (by have := HN.out; omega) dj[jp]! dj[jp + 1]!
      have na : (enc dj[jp + 1]!).length = k := RR.out.hk _
      have nb : (enc dj[jp]!).length = k := RR.out.hk _
      generalize enc dj[jp + 1]! = cI at S2 la sb na
      generalize enc dj[jp]! = cJ at S2 lb sa sb nb
      clear S1 lj lp hcg
      generalize p.w = wp at S2 la lb sa sb ⊢
      clear p
      go_big_region_o
      clear la lb sa sb
      generalize (wp.drew.setCells blk (off + (jp + 1) * k) cJ).setCells blk (off + jp * k) cI = w2 at S2 ⊢
      go_wp2
      go_roundg jp
      case measure => omega
      case rel => exact ⟨jp, swp dj (jp + 1) jp, by first | rfl | go_num | (congr 1; omega), by omega, by omega, Nat.le_refl _, (show _ = _ by rw [size_swp]; exact HN.out), S2, HI.out.step LA.out hja HL.out⟩
     ·have HL : Aside (ltOf cf dj[jp + 1]! dj[jp]! = false) := by show _ = _; rw [HX.out, HY.out]; exact decide_eq_false hlv
      have hdn : decide (cf x y < 0) = false := decide_eq_false hlv
      go_wp2_with fail
      haveI : Inhabited (SBW enc k w0 blk off dj) := ⟨⟨_, S1.out⟩⟩
      refine wp_region_sb S1.out (by assumption) (by kernel_rfl) ?_
      repeat (quiet_step ((go_at_fn g; exact hcg _)))
      refine wpQuiet_nil ?_
      intro _ hw'
      obtain ⟨p, rfl⟩ := hw'
      go_wp2
      go_roundg (b - (i + 1))
      case measure => omega
      case rel => exact ⟨i + 1, dj, by go_num, by omega, by omega, by omega, HN, p.h, OUT.out (.inr (by simpa using HL.out))⟩
    ·have hjaz : decide ((j : Int) > (a : Int)) = false := decide_eq_false (by omega)
     have hjaz' : ¬ (a : Int) < (j : Int) := by omega
     have S2 : Aside (SB enc k w0 blk off dj wr.drew) := S1.out.drew
     clear S1
     go_wp2_with fail
     go_big_region_o
     all_goals go_wp2
     go_roundg (b - (i + 1))
     case measure => omega
     case rel => exact ⟨i + 1, dj, by go_num, by omega, by omega, by omega, HN, S2, OUT.out (.inl (by omega))⟩
  ·have hltz : ¬ (i : Int) < (b : Int) := by omega
   go_wp2
   go_end0
   exact ⟨rfl, dk, HT.out.done (by have := LB.out; omega), HN.out, S1.out⟩
variable {P : Program} {α : Type} [Inhabited α]
theorem stable_w (L : StLays P) (k : Nat) (aE : ∀ w, (isAgg 37).run P w = .ok true w) (zE : ∀ w, (Go.sizeOf 37).run P w = .ok k w) (enc : α → List Value) (cf : α → α → Int) (g : Nat) (cb : Array Value) (eg : ∀ args w, (callFunc g args).run P w = .ok (.enter g args) w)
  (blk off cap n : Nat) (d0 : Array α) (w0 : World)
  (R : RowK enc k w0 blk off d0) (hs : d0.size = n) (hC : CmpB P g cb enc k cf blk off n w0) (O : Stable.Ord (ltOf cf)) (hsz : n < 1152921504606846976) :
  Calls P 146 #[.slice (some ⟨blk, off, none⟩) n cap, .int .i64 n, .func (.func g) #[] cb] w0 fun e w' => e = .returned (.tuple #[]) ∧ ∃ d' : Array α, d'.toList = isort (ltOf cf) d0.toList ∧ d'.size = n ∧ SB enc k w0 blk off d' w' := by
 have mixed := L.mixed; have t3 := L.t3; have a3 := L.a3; have z3 := L.z3; have v3 := L.v3; have t4 := L.t4; have a4 := L.a4; have z4 := L.z4; have v4 := L.v4; have t22 := L.t22; have a22 := L.a22; have z22 := L.z22; have t45 := L.t45
 have FG := L.f30
 have e33 := L.e33
 have e34 := L.e34
 have hl : d0.toList.length = n := by rw [Array.length_toList]; exact hs
 have INS : Aside (∀ (a b : Nat) (d : Array α) (w : World) (pre seg post : List α), d.size = n → SB enc k w0 blk off d w → d.toList = pre ++ (seg ++ post) → pre.length = a → seg.length + a = b →
  Calls P 167 #[.slice (some ⟨blk, off, none⟩) n cap, .int .i64 a, .int .i64 b, .func (.func g) #[] cb] w fun e w' => e = .returned (.tuple #[]) ∧ ∃ d', d'.toList = pre ++ (isort (ltOf cf) seg ++ post) ∧ d'.size = n ∧ SB enc k w0 blk off d' w') :=
  fun a b d w pre seg post hn S T la lb => insertion_w L k aE zE enc cf g cb eg blk off cap a b n d0 d w0 w R hs hn hC O S (by omega) pre seg post T la lb
 have SYM : Aside (∀ (a m b : Nat) (d : Array α) (w : World) (pre U V post : List α), d.size = n → a < m → m < b → b ≤ n → SB enc k w0 blk off d w → Two (ltOf cf) a m b pre U V post d →
  Calls P 168 #[.slice (some ⟨blk, off, none⟩) n cap, .int .i64 a, .int .i64 m, .int .i64 b, .func (.func g) #[] cb] w fun e w' => e = .returned (.tuple #[]) ∧ ∃ d', d'.toList = pre ++ (merge (ltOf cf) U V ++ post) ∧ d'.size = n ∧ SB enc k w0 blk off d' w') :=
  fun a m b d w pre U V post hn h1 h2 h3 S T => by
   have := symMerge_w L k aE zE enc cf g cb eg blk off cap n d0 w0 R hs hC O (by omega) (b - a) a m b d w (Nat.le_refl _) hn h1 h2 h3 S pre U V post T
   rw [hn] at this
   exact this
 have S0 : Aside (SB enc k w0 blk off d0 w0) := SB.start R.hH
 have P0 : Aside (Pass0 (ltOf cf) 20 d0.toList 0 d0) := Pass0.start 20 d0
 have HO := aside O
 have HL := aside hl
 have HS0 := aside hs
 clear hC O R hs L hl eg
 go_enter FG, Tryz.ntmps146
 go_wp2_with fail
 go_loopg [7, 8] n (fun kx s7 s8 wr => ∃ (a : Nat) (d : Array α), s7 = .int .i64 a ∧ s8 = .int .i64 ((a + 20 : Nat) : Int) ∧ a ≤ n ∧ Aside (kx = n - a) ∧ Aside (d.size = n) ∧ Aside (SB enc k w0 blk off d wr) ∧ Aside (Pass0 (ltOf cf) 20 d0.toList a d))
 case atStart => exact ⟨0, d0, rfl, rfl, Nat.zero_le _, rfl, HS0, S0, P0⟩
 case round =>
  clear S0 P0 HS0
  obtain ⟨a, d, rfl, rfl, han, HK, HN, S1, HP⟩ := hrel
  by_cases hb : a + 20 ≤ n
  ·obtain ⟨pre, seg, post, hd, hpre, hseg, hnext⟩ := HP.out.next (by rw [HL.out]; exact hb)
   have hc := INS.out a (a + 20) d wr pre seg post HN.out S1.out hd hpre (by omega)
   have HC2 := aside hc
   have HX := aside hnext
   clear hc hnext hd hseg hpre
   go_wp2_with (go_at_fn 167; refine HC2.out.mono ?_; rintro e1 w1 ⟨rfl, d1, hd1, hd2, hd3⟩)
   have Q1 := aside (HX.out d1 hd1)
   have Q2 := aside hd2
   have Q3 := aside hd3
   clear hd1 hd2 hd3
   go_roundg (n - (a + 20))
   case measure => have := HK.out; omega
   case rel => exact ⟨a + 20, d1, by go_num, by go_num, hb, rfl, Q2, Q3, Q1⟩
  ·obtain ⟨pre, seg, hd, hpre, hseg, hnext⟩ := HP.out.last (by rw [HL.out]; exact hb)
   have hc := INS.out a n d wr pre seg [] HN.out S1.out hd hpre (by have := HL.out; omega)
   have HC2 := aside hc
   have HX := aside hnext
   clear hc hnext hd hseg hpre
   go_wp2_with (go_at_fn 167; refine HC2.out.mono ?_; rintro e1 w1 ⟨rfl, d1, hd1, hd2, hd3⟩)
   have Q1 : Aside (Blk (ltOf cf) 20 d0.toList d1.toList) := HX.out d1 hd1
   have Q2 := aside hd2
   have Q3 := aside hd3
   clear hd1 hd2 hd3 HX HC2 HP S1 HN HK
   go_loopg [6, 7, 8] (n - 20) (fun kx s6 s7 s8 wr2 => ∃ (s : Nat) (d : Array α), s6 = .int .i64 s ∧ 1 ≤ s ∧ s ≤ 2 * n + 20 ∧ Aside (kx = n - s) ∧ Aside (d.size = n) ∧ Aside (SB enc k w0 blk off d wr2) ∧ Aside (Blk (ltOf cf) s d0.toList d.toList))
   case atStart => exact ⟨20, d1, rfl, by omega, by omega, rfl, Q2, Q3, Q1⟩
   case round =>
    clear Q1 Q2 Q3
    obtain ⟨s, d, rfl, hs1, hs2, HK, HN, S1, HB⟩ := hrel
    by_cases hsn : s < n
    ·have hsz' : (s : Int) < (n : Int) := by omega
     obtain ⟨wo, hwo⟩ : ∃ wo : World, wo = wr := ⟨_, rfl⟩
     subst hwo
     have P1 : Aside (Pass (ltOf cf) s d0.toList 0 d) := Pass.start HB.out
     go_wp2_with fail
     go_loopg [7, 8] n (fun kx s7 s8 wr2 => ∃ (a b : Nat) (d : Array α), s7 = .int .i64 a ∧ s8 = .int .i64 b ∧ a ≤ n ∧ b ≤ a + 2 * s ∧ a + 2 * s ≤ b ∧ Aside (kx = n - a) ∧ Aside (d.size = n) ∧ Aside (SB enc k w0 blk off d wr2) ∧ Aside (Pass (ltOf cf) s d0.toList a d))
     case atStart => exact ⟨0, 2 * s, d, rfl, by first | rfl | go_num | (congr 1; omega), Nat.zero_le _, by omega, by omega, rfl, HN, S1, P1⟩
     case round =>
      clear P1 HN S1 HB
      obtain ⟨a, b, d, rfl, rfl, han, hb1, hb2, HK2, HN, S1, HP⟩ := hrel
      obtain ⟨m, em, hm1, hm2⟩ : ∃ m : Nat, (a : Int) + (s : Int) = (m : Int) ∧ m ≤ a + s ∧ a + s ≤ m := ⟨a + s, by omega, by omega, by omega⟩
      obtain ⟨b2, eb2, hb3, hb4⟩ : ∃ b2 : Nat, (b : Int) + 2 * (s : Int) = (b2 : Int) ∧ b2 ≤ b + 2 * s ∧ b + 2 * s ≤ b2 := ⟨b + 2 * s, by omega, by omega, by omega⟩
      by_cases hb : b ≤ n
      ·obtain ⟨pre, U, V, post, hT, hnext⟩ := HP.out.next HO.out (by rw [HL.out]; omega)
       rw [show a + s = m by omega, show a + 2 * s = b by omega] at hT
       rw [show a + 2 * s = b by omega] at hnext
       have hc := SYM.out a m b d wr pre U V post HN.out (by omega) (by omega) hb S1.out hT
       have HC2 := aside hc
       have HX := aside hnext
       clear hc hnext hT
       go_wp2_with (go_at_fn 168; refine HC2.out.mono ?_; rintro e1 w1 ⟨rfl, d1, hd1, hd2, hd3⟩)
       have Q1 := aside (HX.out d1 hd1)
       have Q2 := aside hd2
       have Q3 := aside hd3
       clear hd1 hd2 hd3
       go_roundg (n - b)
       case measure => have := HK2.out; omega
       case rel => exact ⟨b, b2, d1, rfl, rfl, hb, by omega, by omega, rfl, Q2, Q3, Q1⟩
      ·by_cases hm : m < n
       ·obtain ⟨pre, U, V, hT, hnext⟩ := HP.out.last HO.out (by rw [HL.out]; omega) (by rw [HL.out]; omega)
        rw [HL.out, show a + s = m by omega] at hT
        have hc := SYM.out a m n d wr pre U V [] HN.out (by omega) hm (Nat.le_refl _) S1.out hT
        have HC2 := aside hc
        have HX := aside hnext
        clear hc hnext hT
        go_wp2_with (go_at_fn 168; refine HC2.out.mono ?_; rintro e1 w1 ⟨rfl, d1, hd1, hd2, hd3⟩)
        have Q1 := aside (HX.out d1 hd1)
        have Q2 := aside hd2
        have Q3 := aside hd3
        clear hd1 hd2 hd3
        go_roundg (n - 2 * s)
        case measure => have := HK.out; omega
        case rel => exact ⟨2 * s, d1, by first | go_num | (congr 1; omega), by omega, by omega, rfl, Q2, Q3, Q1⟩
       ·have Q1 := aside (HP.out.none (by rw [HL.out]; omega) (by rw [HL.out]; omega))
        go_wp2_with fail
        go_roundg (n - 2 * s)
        case measure => have := HK.out; omega
        case rel => exact ⟨2 * s, d, by first | go_num | (congr 1; omega), by omega, by omega, rfl, HN, S1, Q1⟩
    ·go_wp2_with fail
     go_end0
     exact ⟨rfl, d, HB.out.whole (by rw [HL.out]; omega), HN.out, S1.out⟩
end Go.Proofs.YtcmiehddjgfjaaaGreat.St.GSs
namespace Go.Proofs.YtcmiehddjgfjaaaGreat.St
open Go.Proofs Go.Shelf Go.RowKit Go.Lib Go.Sort Go.Proofs.YtcmiehddjgfjaaaGreat.Stable Go.Proofs.YtcmiehddjgfjaaaGreatW.PrintWords Go.Proofs.YtcmiehddjgfjaaaGreatW.PrintLast Go.Proofs.YtcmiehddjgfjaaaGreatW.PrintMore
section
variable {α : Type} [Inhabited α] {enc : α → List Value} {k : Nat} {w0 W : World} {blk off : Nat} {dk : Array α}
theorem SB.heap (h : SB enc k w0 blk off dk W) : ∃ os : Array Obj, W.heap = (w0.heap.modify blk (onCells (putCells id off (flatK enc k dk)))) ++ os := by
 obtain ⟨n, m, os, h⟩ := h
 refine ⟨os, ?_⟩
 have : (undrawn W n).heap = (grow (putRowK enc k (Sort.ahead w0 m) blk off dk) os).heap := by rw [h]; rfl
 exact this
theorem SB.block (h : SB enc k w0 blk off dk W) (hb : blk < w0.heap.size) : W.heap[blk]? = (w0.heap[blk]?).map (onCells (putCells id off (flatK enc k dk))) := by
 obtain ⟨os, h⟩ := h.heap
 rw [h, Array.getElem?_append_left (by simpa using hb), Array.getElem?_modify, if_pos rfl]
theorem SB.other (h : SB enc k w0 blk off dk W) {b : Nat} (hb : b < w0.heap.size) (hne : b ≠ blk) : W.heap[b]? = w0.heap[b]? := by
 obtain ⟨os, h⟩ := h.heap
 rw [h, Array.getElem?_append_left (by simpa using hb), Array.getElem?_modify, if_neg (fun e => hne e.symm)]
theorem SB.belowB (h : SB enc k w0 blk off dk W) {B : Nat} (hB : B ≤ blk) (hb : blk < w0.heap.size) : Below B w0 W := by
 have hh := h.heap
 have ho : ∀ b, b < B → W.heap[b]? = w0.heap[b]? := fun b hlt => h.other (by omega) (by omega)
 obtain ⟨n, m, os, h⟩ := h
 have h1 : (undrawn W n).os = w0.os := by rw [h]; rfl
 have h2 : (undrawn W n).tape = w0.tape := by rw [h]; rfl
 have h3 : (undrawn W n).output = w0.output := by rw [h]; rfl
 obtain ⟨os', hh⟩ := hh
 exact ⟨h1, h2, h3, by rw [hh]; simp, ho⟩
end
theorem flat_seg {α : Type} [Inhabited α] {enc : α → List Value} {k : Nat} (hk : ∀ x, (enc x).length = k) (d : Array α) (j : Nat) (hj : j < d.size) : ((flatK enc k d).toList.drop (j * k)).take k = enc d[j]! := by
 have hl := hk d[j]!
 have hb : j * k + k ≤ d.size * k := rowK_bnd d k j hj
 apply List.ext_getElem
 ·rw [List.length_take, List.length_drop, Array.length_toList, size_flatK, hl]; omega
 ·intro t h1 h2
  rw [hl] at h2
  rw [List.getElem_take, List.getElem_drop]
  have e := get_flatK enc k d (j * k + t) (by omega)
  rw [getElem!_pos _ (j * k + t) (by rw [size_flatK]; omega)] at e
  have e1 : (j * k + t) / k = j := by rw [Nat.mul_comm, Nat.mul_add_div (by omega), Nat.div_eq_of_lt h2]; omega
  have e2 : (j * k + t) % k = t := by rw [Nat.mul_comm, Nat.mul_add_mod, Nat.mod_eq_of_lt h2]
  rw [e1, e2] at e
  rw [Array.getElem_toList, e, getElem!_pos _ t (by rw [hl]; exact h2)]
theorem put_take (F cur : Array Value) (h : F.size ≤ cur.size) : (putCells id 0 F cur).toList.take F.size = F.toList := by
 apply List.ext_getElem
 ·rw [List.length_take, Array.length_toList, Array.length_toList]; simp [putCells]; omega
 ·intro t h1 h2
  rw [Array.length_toList] at h2
  rw [List.getElem_take, Array.getElem_toList, Array.getElem_toList]
  simp only [putCells, Array.getElem_mapIdx]
  rw [if_pos ⟨by omega, by omega⟩]
  rw [Nat.sub_zero, getElem!_pos F t h2]; rfl
/-- An element, with the cells that bear it. -/
abbrev El {α : Type} (d : Kd α) (w : World) (base : Nat) (ok : Nat → Prop) (g : Nat) := {p : α × List Value // d.M w base (fun k => ok k ∧ some k ≠ some g) p.1 p.2}
def elv {α : Type} {d : Kd α} {w : World} {base : Nat} {ok : Nat → Prop} {g : Nat} (x : El d w base ok g) : α := x.1.1
def elc {α : Type} {d : Kd α} {w : World} {base : Nat} {ok : Nat → Prop} {g : Nat} (x : El d w base ok g) : List Value := x.1.2
section
variable {α : Type} {d : Kd α} {e : Nat} {w0 W : World} {base : Nat} {ok : Nat → Prop} {g n c : Nat} {xs : List α}
theorem elc_len (x : El d w0 base ok g) : (elc x).length = d.sz := d.K_len (d.K_of_M x.2)
theorem elc_one (x : El d w0 base ok g) : ∀ v ∈ elc x, v.oneCell' = true := d.K_one (d.K_of_M x.2)
theorem row_in (h : Kd.R d e w0 base ok (.slice (some ⟨g, 0, none⟩) n c) xs) (hx : xs ≠ []) (hsz : 0 < d.sz) : ∃ (_ : Inhabited (El d w0 base ok g)) (d0 : Array (El d w0 base ok g)), d0.toList.map elv = xs ∧ d0.size = n ∧ base ≤ g ∧ RowK elc d.sz w0 g 0 d0 := by
 obtain ⟨h0, inner, hown, hr⟩ := h
 obtain ⟨hil, ho⟩ := hown
 rcases ho with ⟨hv, hz⟩ | ⟨g', cap', cur, hv, hb, hh, hic, hcm, hcs, htk⟩
 ·exact absurd (List.eq_nil_of_length_eq_zero hz) hx
 injection hv with ha h2 h3
 injection ha with ha
 injection ha with hg'
 subst hg'; subst h3; subst h2
 have hM : ∀ (j : Fin xs.length), d.M w0 base (fun k => ok k ∧ some k ≠ some g) xs[j] ((inner.drop (j * d.sz)).take d.sz) := fun j => hr.2 j xs[j] (by simp)
 obtain ⟨f, hf⟩ : ∃ f : Fin xs.length → El d w0 base ok g, ∀ j, (f j).1 = (xs[j], (inner.drop (j * d.sz)).take d.sz) := ⟨fun j => ⟨(xs[j], (inner.drop (j * d.sz)).take d.sz), hM j⟩, fun j => rfl⟩
 have h0l : 0 < xs.length := List.length_pos_iff.2 hx
 obtain ⟨I, _⟩ : ∃ I : Inhabited (El d w0 base ok g), True := ⟨⟨f ⟨0, h0l⟩⟩, trivial⟩
 have hsize : (Array.ofFn f).size = xs.length := by simp
 refine ⟨I, Array.ofFn f, ?_, hsize, hb, elc_len, elc_one, ?_, (Array.getElem?_eq_some_iff.1 hh).1⟩
 ·apply List.ext_getElem
  ·simp
  ·intro i h1 h2
   simp [elv, hf]
 ·intro j hj
  rw [size_flatK, hsize] at hj
  have hjc : j < cur.size := by
   rw [hcs]
   have := Nat.mul_le_mul_right d.sz hic
   omega
  refine ⟨?_, blk_frozen hh _⟩
  rw [Nat.zero_add, cell_of_row w0 g j cur e (0, 0) hh, get_flatK _ _ _ _ (by rw [hsize]; exact hj)]
  have hdiv : j / d.sz < xs.length := Nat.div_lt_of_lt_mul (by rw [Nat.mul_comm]; exact hj)
  rw [getElem!_pos (Array.ofFn f) (j / d.sz) (by simpa using hdiv)]
  have hfe : (Array.ofFn f)[j / d.sz]'(by simpa using hdiv) = f ⟨j / d.sz, hdiv⟩ := by simp
  rw [hfe]
  show _ = some (id ((elc (f ⟨j / d.sz, hdiv⟩))[j % d.sz]!))
  have hm : j % d.sz < d.sz := Nat.mod_lt _ hsz
  rw [getElem!_pos _ (j % d.sz) (by rw [elc_len]; exact hm)]
  have hec : elc (f ⟨j / d.sz, hdiv⟩) = (inner.drop (j / d.sz * d.sz)).take d.sz := by unfold elc; rw [hf]
  simp only [hec, List.getElem_take, List.getElem_drop, id]
  have hje : j / d.sz * d.sz + j % d.sz = j := by rw [Nat.mul_comm]; exact Nat.div_add_mod j d.sz
  have hin : inner[j]? = cur[j]? := by
   rw [← htk, List.getElem?_take, if_pos hj, Array.getElem?_toList]
  rw [← hin, List.getElem?_eq_getElem (by rw [hil]; exact hj)]
  simp only [hje]
theorem row_out [Inhabited (El d w0 base ok g)] (h : Kd.R d e w0 base ok (.slice (some ⟨g, 0, none⟩) n c) xs) (hx : xs ≠ []) {dk : Array (El d w0 base ok g)} (hn : dk.size = n) (hS : SB elc d.sz w0 g 0 dk W) :
  Kd.R d e W base ok (.slice (some ⟨g, 0, none⟩) n c) (dk.toList.map elv) ∧ ∀ B, B ≤ g → Below B w0 W := by
 obtain ⟨h0, inner, hown, hr⟩ := h
 obtain ⟨hil, ho⟩ := hown
 rcases ho with ⟨hv, hz⟩ | ⟨g', cap', cur, hv, hb, hh, hic, hcm, hcs, htk⟩
 ·exact absurd (List.eq_nil_of_length_eq_zero hz) hx
 injection hv with ha h2 h3
 injection ha with ha
 injection ha with hg'
 subst hg'; subst h3; subst h2
 have hlt : g < w0.heap.size := (Array.getElem?_eq_some_iff.1 hh).1
 have hblk := hS.block hlt
 rw [hh] at hblk
 have hF : (flatK elc d.sz dk).size = xs.length * d.sz := by rw [size_flatK, hn]
 have hFc : (flatK elc d.sz dk).size ≤ cur.size := by rw [hF, hcs]; exact Nat.mul_le_mul_right _ hic
 have hlen : (dk.toList.map elv).length = xs.length := by rw [List.length_map, Array.length_toList, hn]
 refine ⟨⟨h0, (flatK elc d.sz dk).toList, ⟨by rw [Array.length_toList, hF, hlen], .inr ⟨g, c, putCells id 0 (flatK elc d.sz dk) cur, by rw [hlen], hb, hblk, by rw [hlen]; exact hic, hcm, by simp [putCells, hcs], by rw [hlen, ← hF]; exact put_take _ _ hFc⟩⟩, by rw [Array.length_toList, hF, hlen], fun j p hp => ?_⟩, fun B hB => hS.belowB hB hlt⟩
 have hj : j < dk.size := by
  have := (List.getElem?_eq_some_iff.1 hp).1
  rw [hlen] at this; omega
 rw [flat_seg elc_len dk j hj]
 have hp' : elv dk[j]! = p := by
  rw [List.getElem?_map, Array.getElem?_toList, Array.getElem?_eq_getElem hj] at hp
  rw [getElem!_pos dk j hj]
  simpa using hp
 subst hp'
 exact Kd.M_step dk[j]!.2 (fun k hk hlt' => hS.other hlt' (fun e => hk.2 (by rw [e]; rfl)))
end
theorem blk_old {w : World} {g : Nat} {o o' : Obj} (h : w.heap[g]? = some o) : (w.alloc o').heap[g]? = some o := (Below.heap_alloc w o' g (Array.getElem?_eq_some_iff.1 h).1).trans h
theorem blk_new2 (w : World) (o o' : Obj) : ((w.alloc o).alloc o').heap[w.heap.size + 1]? = some o' := by
 have := blk_new (w.alloc o) o'
 simpa using this
theorem size_new (w : World) (o : Obj) : w.heap.size ≤ (w.alloc o).heap.size := by simp
/-- A literal of no element, and of one, as rows of the call's own. -/
theorem ne_own {g g' n c : Nat} (h : g ≠ g') : some g ≠ (Value.slice (some ⟨g', 0, none⟩) n c).ownBlock := fun e => h (by injection e)
theorem lit_none {α : Type} (d : Kd α) (e : Nat) {W : World} {base g : Nat} (h : W.heap[g]? = some (.cells #[] e (0, 0))) (hb : base ≤ g) : Kd.R d e W base (fun _ => True) (.slice (some ⟨g, 0, none⟩) 0 0) [] :=
 ⟨fun _ _ => trivial, [], ⟨by simp, .inr ⟨g, 0, #[], rfl, hb, h, by simp, by simp [maxLen], by simp, by simp⟩⟩, Reps.none _ _⟩
theorem ltOf_map {α β : Type} (f : β → α) (lt : α → α → Bool) : ∀ u v : List β, (merge (fun a b => lt (f a) (f b)) u v).map f = merge lt (u.map f) (v.map f)
 | [], v => by rw [merge, List.map_nil, merge]
 | x :: u, [] => by rw [merge, List.map_nil, List.map_cons, merge]
 | x :: u, y :: v => by
  rw [merge, List.map_cons, List.map_cons, merge]
  split
  ·rw [List.map_cons, ltOf_map f lt (x :: u) v]; rfl
  ·rw [List.map_cons, ltOf_map f lt u (y :: v)]; rfl
theorem isort_map {α β : Type} (f : β → α) (lt : α → α → Bool) (l : List β) : (isort (fun a b => lt (f a) (f b)) l).map f = isort lt (l.map f) := by
 have : ∀ (l s : List β), (l.foldl (fun s x => merge (fun a b => lt (f a) (f b)) s [x]) s).map f = (l.map f).foldl (fun s x => merge lt s [x]) (s.map f) := by
  intro l
  induction l with
  | nil => intro s; rfl
  | cons x l ih => intro s; rw [List.foldl_cons, ih, ltOf_map]; rfl
 exact this l []
theorem ord_map {α β : Type} (f : β → α) {lt : α → α → Bool} (h : Stable.Ord lt) : Stable.Ord (fun a b : β => lt (f a) (f b)) :=
 ⟨fun a b c => h.trans _ _ _, fun z x y => h.skip _ _ _, fun a b => h.asym _ _⟩
end Go.Proofs.YtcmiehddjgfjaaaGreat.St
namespace Go.Proofs.YtcmiehddjgfjaaaGreat.St.GSs
open Go.Proofs Go.Shelf Go.RowKit Go.Lib Go.Sort Go.Proofs.YtcmiehddjgfjaaaGreat.Stable Go.Proofs.YtcmiehddjgfjaaaGreatW.PrintWords Go.Proofs.YtcmiehddjgfjaaaGreatW.PrintLast Go.Proofs.YtcmiehddjgfjaaaGreatW.PrintMore
theorem lays : StLays Tryz.prog where
 mixed := by kernel_rfl
 f30 := Tryz.func146
 f33 := Tryz.func167
 f34 := Tryz.func168
 f36 := Tryz.func177
 f37 := Tryz.func181
 e33 := enters_of Tryz.func167 (by kernel_rfl) rfl
 e34 := enters_of Tryz.func168 (by kernel_rfl) rfl
 e36 := enters_of Tryz.func177 (by kernel_rfl) rfl
 e37 := enters_of Tryz.func181 (by kernel_rfl) rfl
 t3 := Tryz.underlying3
 a3 := Tryz.isAgg3
 z3 := Tryz.sizeOf3
 v3 := Tryz.zeroValue3
 t4 := Tryz.underlying4
 a4 := Tryz.isAgg4
 z4 := Tryz.sizeOf4
 v4 := Tryz.zeroValue4
 t53 := Tryz.underlying141
 a53 := Tryz.isAgg141
 z53 := Tryz.sizeOf141
 t22 := Tryz.underlying33
 a22 := Tryz.isAgg33
 z22 := Tryz.sizeOf33
 t45 := Tryz.underlying82
 a45 := Tryz.isAgg82
 z45 := Tryz.sizeOf82
theorem ins_none (A : Option Addr) (c g : Nat) (cb : Array Value) (w : World) :
  Calls Tryz.prog 167 #[.slice A 0 c, .int .i64 0, .int .i64 0, .func (.func g) #[] cb] w fun e w' => e = .returned (.tuple #[]) ∧ w' = w := by
 go_enter Tryz.func167, Tryz.ntmps167
 go_wp2_with fail
 go_loopg [8, 9] 0 (fun kq v8 v9 w' => v8 = .int .i64 1 ∧ w' = w)
 case atStart => exact ⟨rfl, rfl⟩
 case round =>
  obtain ⟨rfl, rfl⟩ := hrel
  go_wp2
  go_end0; exact ⟨rfl, rfl⟩
theorem stable_none (A : Option Addr) (c g : Nat) (cb : Array Value) (w : World) :
  Calls Tryz.prog 146 #[.slice A 0 c, .int .i64 0, .func (.func g) #[] cb] w fun e w' => e = .returned (.tuple #[]) ∧ w' = w := by
 go_enter Tryz.func146, Tryz.ntmps146
 go_wp2_with fail
 go_loopg [7, 8] 0 (fun kq v7 v8 w' => v7 = .int .i64 0 ∧ v8 = .int .i64 20 ∧ w' = w)
 case atStart => exact ⟨rfl, rfl, rfl⟩
 case round =>
  obtain ⟨rfl, rfl, rfl⟩ := hrel
  go_wp2_with fail
  refine (ins_none A c g cb wr).mono ?_
  rintro e w' ⟨rfl, rfl⟩
  go_wp2_with fail
  go_loopg [6, 7, 8, 9] 0 (fun kq v6 v7 v8 v9 w1 => v6 = .int .i64 20 ∧ w1 = w')
  case atStart => exact ⟨rfl, rfl⟩
  case round =>
   obtain ⟨rfl, rfl⟩ := hrel
   go_wp2
   go_end0; exact ⟨rfl, rfl⟩
/-- 'cmp' tells the order of two elements, in whatever world in which they can be read. -/
def CmpTells {α : Type} (d : Kd α) (g : Nat) (cb : Array Value) (cmp : α → α → Int) : Prop :=
 ∀ (W : World) (base : Nat) (ok : Nat → Prop) (x y : α) (cs ds : List Value), d.M W base ok x cs → d.M W base ok y ds →
  Calls Tryz.prog g (#[.agg cs.toArray, .agg ds.toArray] ++ cb) W fun e w' => e = .returned (.int .i64 (cmp x y)) ∧ Below W.heap.size W w'
theorem stable_R {α : Type} (d : Kd α) (hz : 0 < d.sz) (zE : ∀ w, (Go.sizeOf 37).run Tryz.prog w = .ok d.sz w) (cmp : α → α → Int) (g : Nat) (cb : Array Value) (eg : ∀ args w, (callFunc g args).run Tryz.prog w = .ok (.enter g args) w)
  (O : Stable.Ord (ltOf cmp)) (hcmp : CmpTells d g cb cmp) {w0 : World} {base : Nat} {ok : Nat → Prop} {v : Value} {xs : List α} (h : Kd.R d 37 w0 base ok v xs) (hl : xs.length < 1152921504606846976) :
  Calls Tryz.prog 146 #[v, .int .i64 xs.length, .func (.func g) #[] cb] w0 fun e w' => e = .returned (.tuple #[]) ∧ Kd.R d 37 w' base ok v (isort (ltOf cmp) xs) ∧ Below base w0 w' := by
 obtain ⟨A, c, rfl⟩ := Kd.R_slice h
 by_cases hx : xs = []
 ·subst hx
  refine (stable_none A c g cb w0).mono ?_
  rintro e w' ⟨rfl, rfl⟩
  exact ⟨rfl, h, Below.refl _ _⟩
 ·obtain ⟨ad, _, he⟩ := Kd.R_slice1 h (List.length_pos_iff.2 hx)
  injection he with he1 _ _
  subst he1
  obtain ⟨blk, rfl⟩ := Kd.R_head h
  obtain ⟨I, d0, hm, hs, hb, R⟩ := row_in h hx hz
  have hC : CmpB Tryz.prog g cb (elc (d := d) (w := w0) (base := base) (ok := ok) (g := blk)) d.sz (fun x y => cmp (elv x) (elv y)) blk 0 xs.length w0 := by
   intro dk W hdk hS x y
   exact hcmp W base _ _ _ _ _ (Kd.M_step x.2 (fun k hk hlt => hS.other hlt (fun e => hk.2 (by rw [e])))) (Kd.M_step y.2 (fun k hk hlt => hS.other hlt (fun e => hk.2 (by rw [e]))))
  have O' : Stable.Ord (ltOf (fun x y : El d w0 base ok blk => cmp (elv x) (elv y))) := ord_map elv O
  refine (stable_w lays d.sz Tryz.isAgg37 zE elc (fun x y => cmp (elv x) (elv y)) g cb eg blk 0 c xs.length d0 w0 R hs hC O' hl).mono ?_
  rintro e w' ⟨rfl, d', hd', hn, hS⟩
  obtain ⟨h1, h2⟩ := row_out h hx hn hS
  have e1 : d'.toList.map elv = isort (ltOf cmp) xs := by
   rw [hd', ← hm]
   exact isort_map elv (ltOf cmp) d0.toList
  rw [e1] at h1
  exact ⟨rfl, h1, h2 base hb⟩
/-- slices.SortStableFunc. -/
theorem sortStable_R {α : Type} (d : Kd α) (hz : 0 < d.sz) (zE : ∀ w, (Go.sizeOf 37).run Tryz.prog w = .ok d.sz w) (cmp : α → α → Int) (g : Nat) (cb : Array Value) (eg : ∀ args w, (callFunc g args).run Tryz.prog w = .ok (.enter g args) w)
  (O : Stable.Ord (ltOf cmp)) (hcmp : CmpTells d g cb cmp) {w0 : World} {base : Nat} {ok : Nat → Prop} {v : Value} {xs : List α} (h : Kd.R d 37 w0 base ok v xs) (hl : xs.length < 1152921504606846976) :
  Calls Tryz.prog 89 #[v, .func (.func g) #[] cb] w0 fun e w' => e = .returned (.tuple #[]) ∧ Kd.R d 37 w' base ok v (isort (ltOf cmp) xs) ∧ Below base w0 w' := by
 have hc := stable_R d hz zE cmp g cb eg O hcmp h hl
 obtain ⟨A, c, rfl⟩ := Kd.R_slice h
 have HC := aside hc
 clear hc h hcmp O eg zE
 go_enter Tryz.func89, Tryz.ntmps89
 go_wp2_with fail
 refine HC.out.mono ?_
 rintro e w' ⟨rfl, h1, h2⟩
 go_wp2
 go_end0
 exact ⟨rfl, h1, h2⟩
end Go.Proofs.YtcmiehddjgfjaaaGreat.St.GSs
namespace Go.Proofs.YtcmiehddjgfjaaaGreat.A
open Go.RowKit Go.Proofs.YtcmiehddjgfjaaaGreatW.PrintWords Go.Proofs.YtcmiehddjgfjaaaGreatW.PrintLast Go.Proofs.YtcmiehddjgfjaaaGreatW.PrintMore
/-- A world in which nothing that was has turned. -/
structure Bw (w0 : World) where
 w : World
 h : Below w0.heap.size w0 w
/-- A region that only reads and whose callees lay blocks at most: one walk, in the order of the text. -/
theorem wp_region_Bw {P : Program} {id : Nat} {Q : Exit → Act → World → Prop} {a : Act} {w : World} {l : List Oper} (hm : P.follows .mixedOrders = true) (hB : Region.lexB .any l.toArray = true)
  (h : wpQuiet P l.toArray (fun w' => ∃ p : Bw w, w' = p.w) (fun a' => ∀ w', (∃ p : Bw w, w' = p.w) → Q .normal a' w') l a) : (Code.region id l.toArray true).wp P Q a w :=
 wp_region_quiet (C := fun w' => ∃ p : Bw w, w' = p.w) hm hB ⟨⟨_, (Below.refl _ _).drew⟩, rfl⟩ (by simpa using h)
instance (w : World) : Inhabited (Bw w) := ⟨⟨w, Below.refl _ _⟩⟩
theorem Bw.at {P : Program} {f : Nat} {args : Array Value} {v : Value} {w0 : World} (p : Bw w0) (h : Calls P f args p.w fun e w' => e = .returned v ∧ Below p.w.heap.size p.w w') : Calls P f args p.w fun e w' => e = .returned v ∧ ∃ q : Bw w0, w' = q.w :=
 h.mono fun _ _ ⟨he, hb⟩ => ⟨he, ⟨_, p.h.trans (hb.mono p.h.size)⟩, rfl⟩
theorem Bw.same {P : Program} {f : Nat} {args : Array Value} {v : Value} {w0 : World} (p : Bw w0) (h : Calls P f args p.w fun e w' => e = .returned v ∧ p.w = w') : Calls P f args p.w fun e w' => e = .returned v ∧ ∃ q : Bw w0, w' = q.w :=
 h.mono fun _ _ ⟨he, hb⟩ => ⟨he, p, hb.symm⟩
theorem Bw.cell {w0 : World} (p : Bw w0) {a : Addr} {v : Value} (h : w0.cell? a = some v) : p.w.cell? a = some v := pw_cell_below p.h h
theorem Bw.drawn {P : Program} {f : Nat} {args : Array Value} {v : Value} {w0 : World} (p : Bw w0) (h : Calls P f args p.w fun e w' => e = .returned v ∧ Drawn0 p.w w') : Calls P f args p.w fun e w' => e = .returned v ∧ ∃ q : Bw w0, w' = q.w :=
 h.mono fun _ _ ⟨he, hb⟩ => ⟨he, by obtain ⟨n, rfl⟩ := hb; exact ⟨⟨_, pbd p.h n⟩, rfl⟩⟩
end Go.Proofs.YtcmiehddjgfjaaaGreat.A
namespace Go.Proofs.YtcmiehddjgfjaaaGreat.H
open Go.Shelf
def lays106_ren : Go.Shelf.Ren := ⟨fun | 106 => 94 | 213 => 147 | 265 => 169 | n => n, fun | 9 => 9 | 3 => 3 | n => n, fun | n => n⟩
theorem lays106 : Go.Proofs.Lays.n106 Tryz.prog lays106_ren := {
 mixed := by kernel_rfl
 f106 := Tryz.func94.trans (congrArg some (by kernel_rfl))
 f213 := Tryz.func147.trans (congrArg some (by kernel_rfl))
 f265 := Tryz.func169.trans (congrArg some (by kernel_rfl))
 t3 := Tryz.underlying3
 a3 := Tryz.isAgg3
 z3 := Tryz.sizeOf3
 v3 := Tryz.zeroValue3
 t9 := Tryz.underlying9
 a9 := Tryz.isAgg9
 z9 := Tryz.sizeOf9
 v9 := Tryz.zeroValue9 }
theorem strings_Compare (a b : ByteArray) (w : World) :
  Calls Tryz.prog 94 #[.string a, .string b] w fun e w' => e = .returned (.int .i64 (Lib.compareBytes a.data.toList b.data.toList)) ∧ w' = w := Any.strings_Compare lays106 a b w
end Go.Proofs.YtcmiehddjgfjaaaGreat.H
namespace Go.Proofs.YtcmiehddjgfjaaaGreat.A
open Go.RowKit Go.Proofs.YtcmiehddjgfjaaaGreatW.PrintWords Go.Proofs.YtcmiehddjgfjaaaGreatW.PrintLast Go.Proofs.YtcmiehddjgfjaaaGreatW.PrintMore Go.Proofs.YtcmiehddjgfjaaaGreat.St
theorem strcmp_calls (a b : ByteArray) (w : World) : Calls Tryz.prog 94 #[.string a, .string b] w fun e w' => e = .returned (.int .i64 (cmpS a b)) ∧ w = w' := (H.strings_Compare a b w).mono fun _ _ ⟨he, hw⟩ => ⟨he, hw.symm⟩
theorem byName_calls (x y : Lab) (w : World) : Calls Tryz.prog 93 #[.agg #[.string x.f0, .string x.f1], .agg #[.string y.f0, .string y.f1]] w fun e w' => e = .returned (.int .i64 (cmpS x.f0 y.f0)) ∧ Below w.heap.size w w' := by
 obtain ⟨s, t⟩ := x
 obtain ⟨u, v⟩ := y
 simp only
 have HC := Sd.mk (strcmp_calls s u)
 generalize cmpS s u = r at HC ⊢
 go_enter Tryz.func93, Tryz.ntmps93
 go_wp2_with (go_at_call 94; refine (HC.out _).mono ?_; rintro e w1 ⟨rfl, rfl⟩)
 go_ret
 exact ⟨rfl, by repeat (first | exact Below.refl _ _ | apply bal | apply pbd | apply bd1)⟩
theorem cmp1_calls (x y : Lab) (w : World) : Calls Tryz.prog 92 #[.agg #[.string x.f0, .string x.f1], .agg #[.string y.f0, .string y.f1]] w fun e w' => e = .returned (.int .i64 (cmpLab x y)) ∧ Below w.heap.size w w' := by
 have hb := fun w1 => byName_calls x y w1
 have hc := strcmp_calls x.f1 y.f1
 have he : cmpLab x y = if cmpS x.f0 y.f0 = 0 then cmpS x.f1 y.f1 else cmpS x.f0 y.f0 := rfl
 rw [he]
 obtain ⟨s, t⟩ := x
 obtain ⟨u, v⟩ := y
 simp only at hb hc ⊢
 clear he
 generalize cmpS s u = q at hb ⊢
 generalize cmpS t v = r at hc ⊢
 have HB := Sd.mk hb
 have HC := Sd.mk hc
 clear hb hc
 have x0 := blk_new (w.alloc (.cells #[.string s, .string t] 62)) (.cells #[.string u, .string v] 62)
 have b2 : Below w.heap.size w ((w.alloc (.cells #[.string s, .string t] 62)).alloc (.cells #[.string u, .string v] 62)) := bal (bal (Below.refl _ _) _) _
 have xs := blk_alloc (blk_new w (.cells #[.string s, .string t] 62)) (.cells #[.string u, .string v] 62)
 rw [World.size_alloc] at x0
 have X0 := Sd.mk x0
 have XS := Sd.mk xs
 have B2 := Sd.mk b2
 clear x0 xs b2
 by_cases h0 : q = 0
 ·subst h0
  rw [if_pos rfl]
  go_enter Tryz.func92, Tryz.ntmps92
  go_wp2_with (first
   | (go_at_call 93; refine (HB.out _).mono ?_; rintro e w1 ⟨rfl, hb1⟩; have c0 := (blk_cell (blk_below XS.out hb1) 1).trans rfl; have c1 := (blk_cell (blk_below X0.out hb1) 1).trans rfl; have HE := Sd.mk (B2.out.trans (hb1.mono B2.out.size)); clear hb1)
   | (go_at_call 94; refine (HC.out _).mono ?_; rintro e w2 ⟨rfl, rfl⟩))
  go_ret
  exact ⟨rfl, HE.out⟩
 ·rw [if_neg h0]
  have b1 : (q != 0) = true := by simpa using h0
  have b0 : (q == 0) = false := by simpa using h0
  clear h0
  go_enter Tryz.func92, Tryz.ntmps92
  go_wp2_with (go_at_call 93; refine (HB.out _).mono ?_; rintro e w1 ⟨rfl, hb1⟩; have HE := Sd.mk (B2.out.trans (hb1.mono B2.out.size)); clear hb1)
  go_ret
  exact ⟨rfl, HE.out⟩
theorem compareFunc_calls (A B : Option Addr) (c d : Nat) (a b : List Lab) (w : World) (ha : Kd.C k62 w A a.length a) (hb : Kd.C k62 w B b.length b) :
  Calls Tryz.prog 91 #[.slice A a.length c, .slice B b.length d, .func (.func 92) #[] #[]] w fun e w' => e = .returned (.int .i64 (cmpL a b)) ∧ Below w.heap.size w w' := by
 have hma : a.length ≤ 9223372036854775807 := Kd.C_max ha
 have hmb : b.length ≤ 9223372036854775807 := Kd.C_max hb
 have HA := Sd.mk ha
 have HB := Sd.mk hb
 have eg : ∀ args w, (callFunc 92 args).run Tryz.prog w = .ok (.enter 92 args) w := enters_of Tryz.func92 (by kernel_rfl) rfl
 clear ha hb
 go_enter Tryz.func91, Tryz.ntmps91
 go_wp2
 go_loopg [6, 7, 8, 9, 10, 13] a.length (fun gg v6 _ _ _ _ v13 wr => ∃ i : Nat, i ≤ a.length ∧ i ≤ b.length ∧ v6 = .int .i64 0 ∧ v13 = .int .i64 i ∧ Sd (gg = a.length - i) ∧ Sd (cmpL a b = cmpL (a.drop i) (b.drop i)) ∧ Sd (Below w.heap.size w wr))
 case atStart => exact ⟨0, Nat.zero_le _, Nat.zero_le _, rfl, rfl, ⟨rfl⟩, ⟨rfl⟩, ⟨Below.refl _ _⟩⟩
 case round =>
  obtain ⟨i, hia, hib, rfl, rfl, HK, HT, HW⟩ := hrel
  by_cases hlt : i < a.length
  ·have bl : (i : Int) < (a.length : Int) := by omega
   obtain ⟨ad, rfl, p0, p1⟩ := at_T62 (Kd.C_below HA.out HW.out) (i : Int) (by omega) (by omega)
   rw [Int.toNat_natCast, rdL_at hlt] at p0 p1
   have ea := List.drop_eq_getElem_cons hlt
   by_cases hj : i < b.length
   ·have bj : (i : Int) < (b.length : Int) := by omega
    have bj2 : decide ((i : Int) ≥ (b.length : Int)) = false := decide_eq_false (by omega)
    obtain ⟨ad2, rfl, r0, r1⟩ := at_T62 (Kd.C_below HB.out HW.out) (i : Int) (by omega) (by omega)
    rw [Int.toNat_natCast, rdL_at hj] at r0 r1
    have eb := List.drop_eq_getElem_cons hj
    have HT2 := Sd.mk (show cmpL a b = if cmpLab a[i] b[i] = 0 then cmpL (a.drop (i + 1)) (b.drop (i + 1)) else cmpLab a[i] b[i] by rw [HT.out, ea, eb, cmpL])
    clear ea eb HT
    have hcl := cmp1_calls a[i] b[i]
    generalize a[i] = x at p0 p1 HT2 hcl
    generalize b[i] = y at r0 r1 HT2 hcl
    generalize cmpLab x y = r at HT2 hcl
    have bn : Below wr.heap.size wr (wr.alloc (.cells #[.string x.f0, .string x.f1] 62)) := bal (Below.refl _ _) _
    have s0 := pw_cell_below bn r0
    have s1 := pw_cell_below bn r1
    clear bn r0 r1
    have bj3 : decide (b.length ≤ i) = false := decide_eq_false (by omega)
    by_cases h0 : r = 0
    ·subst h0
     have HT3 := Sd.mk (HT2.out.trans (if_pos rfl))
     clear HT2
     go_wp2_with (go_at_fn 92; refine (hcl _).mono ?_; rintro e w1 ⟨rfl, hb1⟩; have HE := Sd.mk ((bal (bal HW.out _) _).trans (hb1.mono (bal (bal HW.out _) _).size)); clear hb1)
     go_roundg (a.length - (i + 1))
     case measure => have := HK.out; omega
     case rel => exact ⟨i + 1, by omega, by omega, rfl, by go_num, ⟨rfl⟩, HT3, HE⟩
    ·have HT3 := Sd.mk (HT2.out.trans (if_neg h0))
     have n0 : (r != 0) = true := by simpa using h0
     have n1 : (r == 0) = false := by simpa using h0
     clear HT2 h0
     go_wp2_with (go_at_fn 92; refine (hcl _).mono ?_; rintro e w1 ⟨rfl, hb1⟩; have HE := Sd.mk ((bal (bal HW.out _) _).trans (hb1.mono (bal (bal HW.out _) _).size)); clear hb1)
     go_ret
     exact ⟨by rw [HT3.out]; rfl, HE.out⟩
   ·have bj2 : decide ((i : Int) ≥ (b.length : Int)) = true := decide_eq_true (by omega)
    have HT2 := Sd.mk (show cmpL a b = 1 by rw [HT.out, ea, show b.drop i = [] from List.drop_of_length_le (by omega)]; rfl)
    clear ea HT
    generalize a[i] = x at p0 p1
    have bj3 : decide (b.length ≤ i) = true := decide_eq_true (by omega)
    go_wp2
    go_ret
    exact ⟨by rw [HT2.out]; rfl, by have := HW.out; repeat (first | exact this | apply bal | apply pbd | apply bd1)⟩
  ·have n1 : decide ((i : Int) < (a.length : Int)) = false := decide_eq_false (by omega)
   have n2 : decide (i < a.length) = false := decide_eq_false hlt
   have HT2 := Sd.mk (show cmpL a b = if a.length < b.length then -1 else 0 by
    rw [HT.out, List.drop_of_length_le (by omega)]
    by_cases h : a.length < b.length
    ·rw [if_pos h, List.drop_eq_getElem_cons (show i < b.length by omega)]; rfl
    ·rw [if_neg h, List.drop_of_length_le (by omega)]; rfl)
   by_cases h : a.length < b.length
   ·have b1 : decide ((a.length : Int) < (b.length : Int)) = true := decide_eq_true (by omega)
    have b2 : decide (a.length < b.length) = true := decide_eq_true h
    rw [if_pos h] at HT2
    go_wp2
    go_ret
    exact ⟨by rw [HT2.out]; rfl, HW.out⟩
   ·have b1 : decide ((a.length : Int) < (b.length : Int)) = false := decide_eq_false (by omega)
    have b2 : decide (a.length < b.length) = false := decide_eq_false h
    rw [if_neg h] at HT2
    go_wp2
    go_ret
    exact ⟨by rw [HT2.out]; rfl, HW.out⟩
theorem lcompare_calls (A B : Option Addr) (c d : Nat) (a b : List Lab) (w : World) (ha : Kd.C k62 w A a.length a) (hb : Kd.C k62 w B b.length b) :
  Calls Tryz.prog 57 #[.slice A a.length c, .slice B b.length d] w fun e w' => e = .returned (.int .i64 (cmpL a b)) ∧ Below w.heap.size w w' := by
 have HC := Sd.mk (compareFunc_calls A B c d a b w ha hb)
 clear ha hb
 generalize cmpL a b = r at HC ⊢
 go_enter Tryz.func57, Tryz.ntmps57
 go_wp2_with (go_at_call 91; refine HC.out.mono ?_; rintro e w1 ⟨rfl, hb1⟩)
 go_ret
 exact ⟨rfl, hb1⟩
open Go.Proofs.YtcmiehddjgfjaaaGreat.Stable
def cmpSer (x y : Ser) : Int := cmpL x.f0 y.f0
theorem cmpSer3 : Cmp3 cmpSer := cmpL3.map S37.f0
theorem heapSer : Kd.Heap k37 := Kd.heap_iso _ (Kd.heap_pair (Kd.heap_slice _ (Kd.heap_iso _ (Kd.heap_pair Kd.heap_string Kd.heap_string))) (Kd.heap_iso _ (Kd.heap_pair (Kd.heap_int _) (Kd.heap_int _))))
theorem values_calls (A : Option Addr) (n c : Nat) (w : World) : Calls Tryz.prog 55 #[.slice A n c] w fun e w' => e = .returned (.func (.func 90) #[] #[.pointer (some ⟨w.heap.size, 0, none⟩)]) ∧ w' = w.alloc (.cells #[.slice A n c] 33) :=
 callsIn_wide.1 (ColS.values_in Fence.wide 3 trivial rfl A n c w)
theorem collect_calls (Bs : Nat) (A : Option Addr) (cap : Nat) (zs : List ColS.Rw) (hreach : zs.length * 40 ≤ 140737488355328) (w : World) (hBs : Bs < w.heap.size) (hc : w.cell? ⟨Bs, 0, none⟩ = some (.slice A zs.length cap)) (hI : ColS.Row w.heap.size w A zs) :
  Calls Tryz.prog 88 #[.func (.func 90) #[] #[.pointer (some ⟨Bs, 0, none⟩)]] w fun e w' => ∃ v, e = .returned v ∧ w'.ownsRow w.heap.size 37 3 v zs.length (ColS.flat zs) ∧ Below w.heap.size w w' := by
 have HA := Sd.mk (callsIn_wide.1 (ColS.appendSeq_in Fence.wide 3 trivial trivial rfl (by omega) Bs A cap zs hreach w hBs hc hI))
 clear hreach hBs hc hI
 go_enter Tryz.func88, Tryz.ntmps88
 go_wp2_with (go_at_call 145; refine HA.out.mono ?_; rintro e w1 ⟨v, rfl, ho, hb⟩; have HO := Sd.mk ho; have HB := Sd.mk hb; clear ho hb)
 go_ret
 exact ⟨v, rfl, HO.out, HB.out⟩
theorem sorted_calls {P' : Value → World → Prop} (g : Nat) (Bs : Nat) (A : Option Addr) (cap : Nat) (zs : List ColS.Rw) (hreach : zs.length * 40 ≤ 140737488355328) (w : World) (hBs : Bs < w.heap.size) (hc : w.cell? ⟨Bs, 0, none⟩ = some (.slice A zs.length cap)) (hI : ColS.Row w.heap.size w A zs)
  (hS : ∀ v w1, w1.ownsRow w.heap.size 37 3 v zs.length (ColS.flat zs) → Below w.heap.size w w1 → Calls Tryz.prog 89 #[v, .func (.func g) #[] #[]] w1 fun e w' => e = .returned (.tuple #[]) ∧ P' v w') :
  Calls Tryz.prog 54 #[.func (.func 90) #[] #[.pointer (some ⟨Bs, 0, none⟩)], .func (.func g) #[] #[]] w fun e w' => ∃ v, e = .returned v ∧ P' v w' := by
 have HA := Sd.mk (collect_calls Bs A cap zs hreach w hBs hc hI)
 have HS := Sd.mk hS
 clear hreach hBs hc hI hS
 go_enter Tryz.func54, Tryz.ntmps54
 go_wp2_with fail
 refine HA.out.mono ?_
 rintro e w1 ⟨v, rfl, ho, hb⟩
 have HC := Sd.mk (HS.out v w1 ho hb)
 clear ho hb HS HA
 go_wp2_with fail
 refine HC.out.mono ?_
 rintro e w2 ⟨rfl, hp⟩
 have HP := Sd.mk hp
 clear hp
 go_wp2
 go_ret
 exact ⟨v, rfl, HP.out⟩
/-- An element's cells, read in w0. -/
def kFix (w0 : World) : Kd Ser where
 sz := 3
 E := []
 K := fun _ x cs => Kd.FK k37 w0 (fun k => k < w0.heap.size) x cs
 M := fun _ _ _ x cs => Kd.FK k37 w0 (fun k => k < w0.heap.size) x cs
 K_len := fun h => k37.K_len (Kd.FK_now h)
 K_one := fun h => k37.K_one (Kd.FK_now h)
 K_below := fun _ h => h
 K_of_M := fun h => h
 M_mono := fun _ h => h
 M_bound := fun h => h
 M_move := fun _ h => h
 M_lower := fun _ h => h
theorem rows_of {w : World} {A : Option Addr} {l : List Ser} (hr : Kd.C k37 w A l.length l) : ∃ zs : List ColS.Rw, zs.length = l.length ∧ ColS.Row w.heap.size w A zs ∧ ∀ (j : Nat) (x : Ser) (r : ColS.Rw), l[j]? = some x → zs[j]? = some r → Kd.FK k37 w (fun k => k < w.heap.size) x (ColS.cl r) := by
 have hF := Kd.F_rows (Kd.C_F heapSer hr)
 obtain ⟨_, _, h3⟩ := hF
 have key : ∀ j : Fin l.length, ∃ r : ColS.Rw, Kd.FK k37 w (fun k => k < w.heap.size) l[j] (ColS.cl r) ∧ ∀ ad, A = some ad → ∀ i u, (ColS.cl r)[i]? = some u → w.cell? (ad.add (j * 3 + i)) = some u := by
  intro j
  obtain ⟨ad, rfl, hc⟩ := h3 (by have := j.2; omega)
  obtain ⟨c, hl, hk, hcell⟩ := hc j l[j] (List.getElem?_eq_getElem j.2)
  obtain ⟨A0, c0, rfl, _, _⟩ := k37_open (Kd.FK_now hk)
  exact ⟨((A0, l[j].f0.length, c0), l[j].f1.f0, l[j].f1.f1), hk, fun ad' e i u hu => by injection e with e; subst e; exact hcell i u hu⟩
 obtain ⟨f, hf⟩ : ∃ f : Fin l.length → ColS.Rw, ∀ j, Kd.FK k37 w (fun k => k < w.heap.size) l[j] (ColS.cl (f j)) ∧ ∀ ad, A = some ad → ∀ i u, (ColS.cl (f j))[i]? = some u → w.cell? (ad.add (j * 3 + i)) = some u := ⟨fun j => Classical.choose (key j), fun j => Classical.choose_spec (key j)⟩
 refine ⟨List.ofFn f, by simp, ?_, fun j x r hx hz => ?_⟩
 ·by_cases hl : l.length = 0
  ·exact .inl (List.eq_nil_of_length_eq_zero (by simpa using hl))
  ·obtain ⟨ad, rfl, hc⟩ := h3 (by omega)
   refine .inr ⟨ad, rfl, ?_, fun j hj => ?_⟩
   ·have h0 := (hf ⟨0, by omega⟩).2 ad rfl 0 _ rfl
    have := World.block_lt_of_cell? w _ h0
    rwa [add_block] at this
   ·rw [List.length_ofFn] at hj
    have e : (List.ofFn f)[j]?.getD ColS.z0 = f ⟨j, hj⟩ := by simp [hj]
    rw [e]
    have h := (hf ⟨j, hj⟩).2 ad rfl
    exact ⟨h 0 _ rfl, by rw [← add_field _ _ 1 (by omega)]; exact h 1 _ rfl, by rw [← add_field _ _ 2 (by omega)]; exact h 2 _ rfl⟩
 ·have hj : j < l.length := (List.getElem?_eq_some_iff.1 hx).1
  rw [List.getElem?_eq_getElem hj] at hx
  rw [List.getElem?_eq_getElem (by simpa using hj)] at hz
  injection hx with hx
  injection hz with hz
  subst hx; subst hz
  simpa using (hf ⟨j, hj⟩).1
theorem flat_seg (zs : List ColS.Rw) (j : Nat) (hj : j < zs.length) : ((ColS.flat zs).drop (j * 3)).take 3 = ColS.cl zs[j] := by
 induction zs generalizing j with
 | nil => simp at hj
 | cons z zs ih =>
  cases j with
  | zero => simp [ColS.flat, ColS.cl]
  | succ j =>
   have := ih j (by simpa using hj)
   rw [List.getElem_cons_succ, ← this]
   have e : (j + 1) * 3 = (ColS.cl z).length + j * 3 := by show (j + 1) * 3 = 3 + j * 3; omega
   rw [e, ← List.drop_drop]
   congr 1
theorem flat_len (zs : List ColS.Rw) : (ColS.flat zs).length = zs.length * 3 := by
 induction zs with
 | nil => rfl
 | cons z zs ih =>
  show (ColS.cl z ++ ColS.flat zs).length = _
  rw [List.length_append, ih, List.length_cons]
  show 3 + zs.length * 3 = _
  omega
theorem fix_R {w w1 : World} {l : List Ser} {zs : List ColS.Rw} {v : Value} (hz : zs.length = l.length) (hk : ∀ (j : Nat) (x : Ser) (r : ColS.Rw), l[j]? = some x → zs[j]? = some r → Kd.FK k37 w (fun k => k < w.heap.size) x (ColS.cl r))
  (ho : w1.ownsRow w.heap.size 37 3 v zs.length (ColS.flat zs)) : Kd.R (kFix w) 37 w1 w.heap.size (fun _ => True) v l := by
 refine ⟨fun _ _ => trivial, ColS.flat zs, by rw [← hz]; exact ho, by rw [flat_len, hz]; rfl, fun j p hp => ?_⟩
 have hj : j < zs.length := by have := (List.getElem?_eq_some_iff.1 hp).1; omega
 show Kd.FK k37 w (fun k => k < w.heap.size) p (((ColS.flat zs).drop (j * 3)).take 3)
 rw [flat_seg zs j hj]
 exact hk j p _ hp (List.getElem?_eq_getElem hj)
theorem fix_N {w w1 : World} {l : List Ser} {v : Value} (h : Kd.R (kFix w) 37 w1 w.heap.size (fun _ => True) v l) (hb : Below w.heap.size w w1) : Kd.N k37 37 w1 w.heap.size (fun _ => True) v l := by
 have hbase := Kd.R_base h
 have h2 := Kd.R_N h
 obtain ⟨h0, rows, hl, hR, hf⟩ := h2
 refine ⟨fun _ _ => trivial, rows, hl, hR, fun j x c hx hc => ?_⟩
 have hk : Kd.FK k37 w (fun k => k < w.heap.size) x c := Kd.FK_now (hf j x c hx hc)
 exact Kd.FK_mono (Kd.FK_step hk (fun k hk hlt => hb.block k hlt)) (fun k hk => ⟨trivial, fun e => by have := hbase k e.symm; omega⟩)
/-- 'cmp' tells the order of two elements, in each world in which what they lead to is as it was. -/
def CmpFix (g : Nat) (w : World) (cmp : Ser → Ser → Int) : Prop :=
 ∀ (W : World) (x y : Ser) (cs ds : List Value), k37.K W x cs → k37.K W y ds →
  Calls Tryz.prog g #[.agg cs.toArray, .agg ds.toArray] W fun e w' => e = .returned (.int .i64 (cmp x y)) ∧ Below W.heap.size W w'
theorem sort_fix {w w1 : World} {l : List Ser} {v : Value} (g : Nat) (eg : ∀ args w, (callFunc g args).run Tryz.prog w = .ok (.enter g args) w) (cmp : Ser → Ser → Int) (O : Cmp3 cmp) (hcmp : CmpFix g w cmp)
  (h : Kd.R (kFix w) 37 w1 w.heap.size (fun _ => True) v l) (hb : Below w.heap.size w w1) (hl : l.length < 1152921504606846976) :
  Calls Tryz.prog 146 #[v, .int .i64 l.length, .func (.func g) #[] #[]] w1 fun e w' => e = .returned (.tuple #[]) ∧ Kd.R (kFix w) 37 w' w.heap.size (fun _ => True) v (isort (ltOf cmp) l) ∧ Below w.heap.size w1 w' := by
 obtain ⟨A, c, rfl⟩ := Kd.R_slice h
 by_cases hx : l = []
 ·subst hx
  refine (GSs.stable_none A c g #[] w1).mono ?_
  rintro e w' ⟨rfl, rfl⟩
  exact ⟨rfl, h, Below.refl _ _⟩
 ·obtain ⟨ad, _, he⟩ := Kd.R_slice1 h (List.length_pos_iff.2 hx)
  injection he with he1 _ _
  subst he1
  obtain ⟨blk, rfl⟩ := Kd.R_head h
  obtain ⟨I, d0, hm, hs, hbk, R⟩ := row_in h hx (show 0 < 3 by omega)
  have hC : CmpB Tryz.prog g #[] (elc (d := kFix w) (w := w1) (base := w.heap.size) (ok := fun _ => True) (g := blk)) (kFix w).sz (fun x y => cmp (elv x) (elv y)) blk 0 l.length w1 := by
   intro dk W hdk hS x y
   have hW : ∀ k, k < w.heap.size → W.heap[k]? = w.heap[k]? := fun k hk => (hS.other (Nat.lt_of_lt_of_le hk hb.size) (by omega)).trans (hb.block k hk)
   exact hcmp W _ _ _ _ (Kd.FK_now (Kd.FK_step x.2 (fun k hk _ => hW k hk))) (Kd.FK_now (Kd.FK_step y.2 (fun k hk _ => hW k hk)))
  have O' : Stable.Ord (ltOf (fun x y : El (kFix w) w1 w.heap.size (fun _ => True) blk => cmp (elv x) (elv y))) := ord_map elv O.ord
  refine (GSs.stable_w GSs.lays (kFix w).sz Tryz.isAgg37 Tryz.sizeOf37 elc (fun x y => cmp (elv x) (elv y)) g #[] eg blk 0 c l.length d0 w1 R hs hC O' hl).mono ?_
  rintro e w' ⟨rfl, d', hd', hn, hS⟩
  obtain ⟨h1, h2⟩ := row_out h hx hn hS
  have e1 : d'.toList.map elv = isort (ltOf cmp) l := by
   rw [hd', ← hm]
   exact isort_map elv (ltOf cmp) d0.toList
  rw [e1] at h1
  exact ⟨rfl, h1, h2 _ hbk⟩
theorem sort_fix2 {w w1 : World} {l : List Ser} {v : Value} (g : Nat) (eg : ∀ args w, (callFunc g args).run Tryz.prog w = .ok (.enter g args) w) (cmp : Ser → Ser → Int) (O : Cmp3 cmp) (hcmp : CmpFix g w cmp)
  (h : Kd.R (kFix w) 37 w1 w.heap.size (fun _ => True) v l) (hb : Below w.heap.size w w1) (hl : l.length < 1152921504606846976) :
  Calls Tryz.prog 89 #[v, .func (.func g) #[] #[]] w1 fun e w' => e = .returned (.tuple #[]) ∧ Kd.R (kFix w) 37 w' w.heap.size (fun _ => True) v (isort (ltOf cmp) l) ∧ Below w.heap.size w1 w' := by
 have HC := Sd.mk (sort_fix g eg cmp O hcmp h hb hl)
 obtain ⟨A, c, rfl⟩ := Kd.R_slice h
 clear h hcmp O eg hb
 go_enter Tryz.func89, Tryz.ntmps89
 go_wp2_with fail
 refine HC.out.mono ?_
 rintro e w' ⟨rfl, h1, h2⟩
 go_wp2
 go_end0
 exact ⟨rfl, h1, h2⟩
/-- slices.SortedStableFunc(slices.Values(l), cmp), behind slices.Values. -/
theorem sortedN_calls (g : Nat) (eg : ∀ args w, (callFunc g args).run Tryz.prog w = .ok (.enter g args) w) (cmp : Ser → Ser → Int) (O : Cmp3 cmp) (Bs : Nat) (A : Option Addr) (cap : Nat) (l : List Ser) (hreach : l.length * 40 ≤ 140737488355328) (w : World) (hcmp : CmpFix g w cmp) (hBs : Bs < w.heap.size) (hc : w.cell? ⟨Bs, 0, none⟩ = some (.slice A l.length cap)) (hr : Kd.C k37 w A l.length l) :
  Calls Tryz.prog 54 #[.func (.func 90) #[] #[.pointer (some ⟨Bs, 0, none⟩)], .func (.func g) #[] #[]] w fun e w' => ∃ v, e = .returned v ∧ Kd.N k37 37 w' w.heap.size (fun _ => True) v (isort (ltOf cmp) l) ∧ Below w.heap.size w w' := by
 obtain ⟨zs, hz, hrow, hk⟩ := rows_of hr
 refine sorted_calls g Bs A cap zs (by omega) w hBs (by rw [hz]; exact hc) hrow (fun v w1 ho hb => ?_)
 refine (sort_fix2 g eg cmp O hcmp (fix_R hz hk ho) hb (by omega)).mono ?_
 rintro e w' ⟨rfl, h1, h2⟩
 exact ⟨rfl, fix_N h1 (hb.trans h2), hb.trans h2⟩
theorem sort3_calls (w : World) : CmpFix 56 w cmpSer := by
 intro W x y cs ds hx hy
 obtain ⟨A0, c0, rfl, _, hA⟩ := k37_open hx
 obtain ⟨B0, d0, rfl, _, hB⟩ := k37_open hy
 have hb := ((Below.refl W.heap.size W).alloc (Nat.le_refl _) (.cells #[.slice A0 x.f0.length c0, .int .i64 x.f1.f0, .int .i64 x.f1.f1] 37)).alloc (by simp) (.cells #[.slice B0 y.f0.length d0, .int .i64 y.f1.f0, .int .i64 y.f1.f1] 37)
 have HC := Sd.mk (lcompare_calls A0 B0 c0 d0 x.f0 y.f0 _ (Kd.C_below hA hb) (Kd.C_below hB hb))
 have HB := Sd.mk hb
 unfold cmpSer
 generalize cmpL x.f0 y.f0 = r at HC ⊢
 clear hx hy hA hB hb
 go_enter Tryz.func56, Tryz.ntmps56
 go_wp2_with (go_at_call 57; refine HC.out.mono ?_; rintro e w1 ⟨rfl, hb1⟩; have HE := Sd.mk (HB.out.trans (hb1.mono HB.out.size)); clear hb1)
 go_ret
 exact ⟨rfl, HE.out⟩
@[local go_sem] theorem eql_nilLabel (w : World) (a : Option Addr) (n c : Nat) : (binOp .eql 35 (.slice a n c) (.slice none 0 0)).run Tryz.prog w = .ok (.bool a.isNone) w := Lib.run_eql_slice_nil w 35 62 a n c 0 0 Tryz.underlying35
theorem cloneLabel (A : Option Addr) (c : Nat) (l : List S62) (w : World) (hr : Kd.C k62 w A l.length l) (hl : l.length * 32 ≤ 140737488355328) :
  Calls Tryz.prog 105 #[.slice A l.length c] w fun e w' => ∃ v0_ : Value, e = .returned v0_ ∧ Kd.R k62 62 w' w.heap.size (fun _ => True) v0_ l ∧ Below w.heap.size w w' := by
 have hu := Tryz.underlying62
 have HR := Sd.mk hr
 have HL := Sd.mk hl
 have HB := Sd.mk (Below.refl w.heap.size w)
 clear hr hl
 cases A with
 | none =>
  have hnil : l = [] := by
   cases l with
   | nil => rfl
   | cons x l =>
    obtain ⟨ad, h, _⟩ := HR.out.2.2 (by simp)
    cases h
  subst hnil
  go_enter Tryz.func105, Tryz.ntmps105
  go_wp2
  go_ret
  exact ⟨_, rfl, Kd.R_nil _ _ _ _ _, Below.refl _ _⟩
 | some ad =>
  go_enter Tryz.func105, Tryz.ntmps105
  go_wp2_with (first | ((with_reducible refine gate_dst (N := 5) rfl ?_); refine Kd.R_lit k62 _ 62 ?hg (N := 5) ?hd (xs := ([] : List (S62))) (inner := []) (ok := fun _ => True) (okp := fun _ => True) ?hr ?hp (fun _ hk => hk) trivial (Below.refl _ _) (Nat.le_refl _) (by simp) ?_; (case hd => rfl); (case hg => rfl); (case hr => first | (go_simp; done) | (go_simp; rfl)); (case hp => exact (Reps.none _ _)); intro v191 w34 ho35 hb hg_ hnew_; clear hg_ hnew_; have n0_ := Sd.mk (Kd.R_lower ho35 (below_size HB.out)); have n1_ := Sd.mk (below_step HB.out hb); clear HB; have HO192 := n0_; have HB := n1_; clear n0_ n1_; clear hb ho35) | ((with_reducible refine gate_builtin (b := .append) (xs := #[.tmp 5, .tmp 6]) rfl ?_); at_builtin; refine Kd.R_append_rows k62 (w0 := w) w.heap.size rfl (.tmp 5) (.tmp 6) 35 62 (.agg #[(.string ⟨#[]⟩), (.string ⟨#[]⟩)]) 32 rfl Tryz.underlying35 info62 rfl (by decide) (by omega) v191 [] l _ _ _ (fun _ => True) (fun _ => False) rfl rfl ?aO ?aR (fun _ _ h => h) (fun _ h => h.elim) ?aF ?aB ?aS ?aL ?_; (case aR => exact (Kd.C_below HR.out HB.out)); (case aB => exact HB.out); (case aF => exact (fun _ _ => trivial)); (case aO => exact HO192.out); (case aS => exact (below_size HB.out)); (case aL => have := HL.out; simp; omega); intro v194 w36 ho hb hg hat; have n0_ := Sd.mk (hb); have n1_ := Sd.mk (ho); clear HB; clear HO192; have HB := n0_; have HO195 := n1_; clear n0_ n1_; clear ho hb hg hat))
  go_ret
  exact ⟨_, rfl, HO195.out, HB.out⟩
@[local go_sem] theorem eql_nilPoint (w : World) (a : Option Addr) (n c : Nat) : (binOp .eql 22 (.slice a n c) (.slice none 0 0)).run Tryz.prog w = .ok (.bool a.isNone) w := Lib.run_eql_slice_nil w 22 39 a n c 0 0 Tryz.underlying22
theorem clonePoint (A : Option Addr) (c : Nat) (l : List S39) (w : World) (hr : Kd.C k39 w A l.length l) (hl : l.length * 24 ≤ 140737488355328) :
  Calls Tryz.prog 35 #[.slice A l.length c] w fun e w' => ∃ v0_ : Value, e = .returned v0_ ∧ Kd.R k39 39 w' w.heap.size (fun _ => True) v0_ l ∧ Below w.heap.size w w' := by
 have hu := Tryz.underlying39
 have HR := Sd.mk hr
 have HL := Sd.mk hl
 have HB := Sd.mk (Below.refl w.heap.size w)
 clear hr hl
 cases A with
 | none =>
  have hnil : l = [] := by
   cases l with
   | nil => rfl
   | cons x l =>
    obtain ⟨ad, h, _⟩ := HR.out.2.2 (by simp)
    cases h
  subst hnil
  go_enter Tryz.func35, Tryz.ntmps35
  go_wp2
  go_ret
  exact ⟨_, rfl, Kd.R_nil _ _ _ _ _, Below.refl _ _⟩
 | some ad =>
  go_enter Tryz.func35, Tryz.ntmps35
  go_wp2_with (first | ((with_reducible refine gate_dst (N := 5) rfl ?_); refine Kd.R_lit k39 _ 39 ?hg (N := 5) ?hd (xs := ([] : List (S39))) (inner := []) (ok := fun _ => True) (okp := fun _ => True) ?hr ?hp (fun _ hk => hk) trivial (Below.refl _ _) (Nat.le_refl _) (by simp) ?_; (case hd => rfl); (case hg => rfl); (case hr => first | (go_simp; done) | (go_simp; rfl)); (case hp => exact (Reps.none _ _)); intro v191 w34 ho35 hb hg_ hnew_; clear hg_ hnew_; have n0_ := Sd.mk (Kd.R_lower ho35 (below_size HB.out)); have n1_ := Sd.mk (below_step HB.out hb); clear HB; have HO192 := n0_; have HB := n1_; clear n0_ n1_; clear hb ho35) | ((with_reducible refine gate_builtin (b := .append) (xs := #[.tmp 5, .tmp 6]) rfl ?_); at_builtin; refine Kd.R_append_rows k39 (w0 := w) w.heap.size rfl (.tmp 5) (.tmp 6) 22 39 (.agg #[(.int .i64 0), (.int .i64 0), (.int .i64 0)]) 24 rfl Tryz.underlying22 info39 rfl (by decide) (by omega) v191 [] l _ _ _ (fun _ => True) (fun _ => False) rfl rfl ?aO ?aR (fun _ _ h => h) (fun _ h => h.elim) ?aF ?aB ?aS ?aL ?_; (case aR => exact (Kd.C_below HR.out HB.out)); (case aB => exact HB.out); (case aF => exact (fun _ _ => trivial)); (case aO => exact HO192.out); (case aS => exact (below_size HB.out)); (case aL => have := HL.out; simp; omega); intro v194 w36 ho hb hg hat; have n0_ := Sd.mk (hb); have n1_ := Sd.mk (ho); clear HB; clear HO192; have HB := n0_; have HO195 := n1_; clear n0_ n1_; clear ho hb hg hat))
  go_ret
  exact ⟨_, rfl, HO195.out, HB.out⟩
end Go.Proofs.YtcmiehddjgfjaaaGreat.A
namespace Go.Proofs.YtcmiehddjgfjaaaGreat.I
open Go.Proofs Go.Shelf Go.RowKit Go.Lib Go.Proofs.YtcmiehddjgfjaaaGreatW.PrintWords Go.Proofs.YtcmiehddjgfjaaaGreatW.PrintLast Go.Proofs.YtcmiehddjgfjaaaGreatW.PrintMore
/-- Where the first stands that is so. -/
def idxP {α : Type} (p : α → Bool) : List α → Nat → Int
 | [], _ => -1
 | x :: l, i => if p x = true then (i : Int) else idxP p l (i + 1)
theorem idxP_ge {α : Type} (p : α → Bool) : ∀ (l : List α) (i : Nat), decide (0 ≤ idxP p l i) = l.any p
 | [], i => by simp [idxP]
 | x :: l, i => by
  rw [idxP, List.any_cons]
  by_cases h : p x = true
  ·rw [if_pos h, h]; simp
  ·rw [if_neg h, idxP_ge p l (i + 1)]
   simp at h
   rw [h, Bool.false_or]
theorem addr_add (a : Addr) (l j : Nat) : (a.add l).add j = a.add (l + j) := by
 unfold Addr.add
 by_cases h1 : l = 0
 ·subst h1; simp
 ·by_cases h2 : j = 0
  ·subst h2; simp
  ·simp [h1, h2, Nat.add_assoc]
variable {P : Program} {ρ : Ren} {α : Type}
theorem indexFunc (L : SlLaysH0.n6 P ρ) (d : Kd α) (z : α) (aE : ∀ w, (isAgg (ρ.t 23)).run P w = .ok true w) (zE : ∀ w, (Go.sizeOf (ρ.t 23)).run P w = .ok d.sz w) (p : α → Bool) (g : Nat) (lb : Array Value) (eg : ∀ args w, (callFunc g args).run P w = .ok (.enter g args) w)
  (A : Option Addr) (c : Nat) (xs : List α) (w : World) (hr : Kd.C d w A xs.length xs)
  (hp : ∀ x ∈ xs, ∀ w1 cs, Below w.heap.size w w1 → d.K w1 x cs → Calls P g (#[.agg cs.toArray] ++ lb) w1 fun e w' => e = .returned (.bool (p x)) ∧ Below w1.heap.size w1 w') :
  Calls P (ρ.f 6) #[.slice A xs.length c, .func (.func g) #[] lb] w fun e w' => e = .returned (.int .i64 (idxP p xs 0)) ∧ Below w.heap.size w w' := by
 have hm : xs.length ≤ 9223372036854775807 := Kd.C_max hr
 have mixed := L.mixed; have t0 := L.t0; have a0 := L.a0; have z0 := L.z0; have v0 := L.v0; have t3 := L.t3; have a3 := L.a3; have z3 := L.z3; have v3 := L.v3; have t4 := L.t4; have a4 := L.a4; have z4 := L.z4; have v4 := L.v4; have t22 := L.t22; have a22 := L.a22; have z22 := L.z22; have v22 := L.v22; have t25 := L.t25; have a25 := L.a25; have z25 := L.z25; have v25 := L.v25
 have hrow : ∀ (W : World), Below w.heap.size w W → ∀ j, j < xs.length → ∃ (ad : Addr) (cs : List Value), A = some ad ∧ Sem.run P (loadCellsFrom (ad.add (j * d.sz)) 0 d.sz #[]) W = .ok cs.toArray W ∧ Calls P g (#[.agg cs.toArray] ++ lb) W fun e w' => e = .returned (.bool (p (xs.getD j z))) ∧ Below W.heap.size W w' := fun W hW j hj => by
  obtain ⟨ad, cs, e, hl, hK, hc⟩ := Kd.C_get (Kd.C_below hr hW) z (j : Int) (by omega) (by omega)
  rw [Int.toNat_natCast] at hK hc
  refine ⟨ad, cs, e, run_loadCellsFrom_list P _ _ cs d.sz hl (fun i v hi => by rw [addr_add]; exact hc i v hi), hp _ ?_ W cs hW hK⟩
  rw [List.getD_eq_getElem?_getD, List.getElem?_eq_getElem hj]; exact List.getElem_mem hj
 have HROW := Sd.mk hrow
 clear hrow hp hr
 obtain ⟨_, _, FG⟩ := L.f6
 go_enter FG, SlBodyH.n6_ntmps ρ
 go_wp2
 go_loopg [5, 8] xs.length (fun gg _ s8 wr => ∃ kk : Nat, kk ≤ xs.length ∧ s8 = .int .i64 kk ∧ Sd (gg = xs.length - kk) ∧ Sd (idxP p xs 0 = idxP p (xs.drop kk) kk) ∧ Sd (Below w.heap.size w wr))
 case atStart => exact ⟨0, Nat.zero_le _, rfl, ⟨rfl⟩, ⟨rfl⟩, ⟨Below.refl _ _⟩⟩
 case round =>
  obtain ⟨kk, hkk, rfl, HK, HT, HB⟩ := hrel
  by_cases hlt : kk < xs.length
  ·have hltz : (kk : Int) < (xs.length : Int) := by omega
   obtain ⟨ad, cs, rfl, l2, hcall⟩ := HROW.out wr HB.out kk hlt
   have hdr : idxP p (xs.drop kk) kk = if p (xs.getD kk z) = true then (kk : Int) else idxP p (xs.drop (kk + 1)) (kk + 1) := by
    rw [List.drop_eq_getElem_cons hlt, idxP, List.getD_eq_getElem?_getD, List.getElem?_eq_getElem hlt]; rfl
   have HD := Sd.mk hdr
   clear hdr
   generalize p (xs.getD kk z) = q at hcall HD
   cases q with
   | true =>
    have HT2 := Sd.mk (show idxP p xs 0 = (kk : Int) from by rw [HT.out, HD.out, if_pos rfl])
    go_wp2_with (go_at_fn g; refine hcall.mono ?_; rintro e w' ⟨rfl, hb'⟩; have HB1 := Sd.mk (HB.out.trans (hb'.mono HB.out.size)); clear hb')
    go_ret
    exact ⟨by rw [HT2.out]; rfl, HB1.out⟩
   | false =>
    have HT2 := Sd.mk (show idxP p xs 0 = idxP p (xs.drop (kk + 1)) (kk + 1) from by rw [HT.out, HD.out, if_neg (by simp)])
    go_wp2_with (go_at_fn g; refine hcall.mono ?_; rintro e w' ⟨rfl, hb'⟩; have HB1 := Sd.mk (HB.out.trans (hb'.mono HB.out.size)); clear hb')
    go_roundg (xs.length - (kk + 1))
    case measure => have := HK.out; omega
    case rel => exact ⟨kk + 1, by omega, by go_num, ⟨rfl⟩, ⟨HT2.out⟩, HB1⟩
  ·have HT2 := Sd.mk (show idxP p xs 0 = -1 from by rw [HT.out, List.drop_of_length_le (by omega)]; rfl)
   go_wp2
   go_ret
   exact ⟨by rw [HT2.out]; rfl, HB.out⟩
theorem containsFunc (L : SlLaysH0.n8 P ρ) (d : Kd α) (z : α) (aE : ∀ w, (isAgg (ρ.t 23)).run P w = .ok true w) (zE : ∀ w, (Go.sizeOf (ρ.t 23)).run P w = .ok d.sz w) (p : α → Bool) (g : Nat) (lb : Array Value) (eg : ∀ args w, (callFunc g args).run P w = .ok (.enter g args) w)
  (A : Option Addr) (c : Nat) (xs : List α) (w : World) (hr : Kd.C d w A xs.length xs)
  (hp : ∀ x ∈ xs, ∀ w1 cs, Below w.heap.size w w1 → d.K w1 x cs → Calls P g (#[.agg cs.toArray] ++ lb) w1 fun e w' => e = .returned (.bool (p x)) ∧ Below w1.heap.size w1 w') :
  Calls P (ρ.f 8) #[.slice A xs.length c, .func (.func g) #[] lb] w fun e w' => e = .returned (.bool (xs.any p)) ∧ Below w.heap.size w w' := by
 rw [← idxP_ge p xs 0]
 have hi := indexFunc { L with } d z aE zE p g lb eg A c xs w hr hp
 generalize idxP p xs 0 = r at hi
 have HI := Sd.mk hi
 clear hi hp hr
 have mixed := L.mixed; have t0 := L.t0; have a0 := L.a0; have z0 := L.z0; have v0 := L.v0; have t3 := L.t3; have a3 := L.a3; have z3 := L.z3; have v3 := L.v3; have t4 := L.t4; have a4 := L.a4; have z4 := L.z4; have v4 := L.v4; have t22 := L.t22; have a22 := L.a22; have z22 := L.z22; have v22 := L.v22; have t25 := L.t25; have a25 := L.a25; have z25 := L.z25; have v25 := L.v25
 have e6 : ∀ args w, (callFunc (ρ.f 6) args).run P w = .ok (.enter (ρ.f 6) args) w := L.f6.enters rfl
 obtain ⟨_, _, FG⟩ := L.f8
 go_enter FG, SlBodyH.n8_ntmps ρ
 go_wp2_with (go_at_fn (ρ.f 6); refine HI.out.mono ?_; rintro e w' ⟨rfl, hb'⟩)
 go_ret
 exact ⟨rfl, hb'⟩
end Go.Proofs.YtcmiehddjgfjaaaGreat.I
namespace Go.Proofs.YtcmiehddjgfjaaaGreat.A
open Go.RowKit Go.Proofs.YtcmiehddjgfjaaaGreatW.PrintWords Go.Proofs.YtcmiehddjgfjaaaGreatW.PrintLast Go.Proofs.YtcmiehddjgfjaaaGreatW.PrintMore
def layPoint_ren : Go.Shelf.Ren := ⟨fun | 6 => 72 | 8 => 31 | n => n, fun | 22 => 22 | 23 => 39 | 25 => 66 | n => n, fun | n => n⟩
theorem layPoint : Go.Proofs.SlLaysH0.n8 Tryz.prog layPoint_ren := {
 mixed := by kernel_rfl
 f6 := ⟨Tryz.f72.name, by decide, Tryz.func72.trans (congrArg some (by kernel_rfl))⟩
 f8 := ⟨Tryz.f31.name, by decide, Tryz.func31.trans (congrArg some (by kernel_rfl))⟩
 t0 := Tryz.underlying0
 a0 := Tryz.isAgg0
 z0 := Tryz.sizeOf0
 v0 := Tryz.zeroValue0
 t3 := Tryz.underlying3
 a3 := Tryz.isAgg3
 z3 := Tryz.sizeOf3
 v3 := Tryz.zeroValue3
 t4 := Tryz.underlying4
 a4 := Tryz.isAgg4
 z4 := Tryz.sizeOf4
 v4 := Tryz.zeroValue4
 t22 := Tryz.underlying22
 a22 := Tryz.isAgg22
 z22 := Tryz.sizeOf22
 v22 := Tryz.zeroValue22
 t25 := Tryz.underlying66
 a25 := Tryz.isAgg66
 z25 := Tryz.sizeOf66
 v25 := Tryz.zeroValue66 }
theorem containsPoint (p : S39 → Bool) (g : Nat) (lb : Array Value) (eg : ∀ args w, (callFunc g args).run Tryz.prog w = .ok (.enter g args) w) (A : Option Addr) (c : Nat) (xs : List S39) (w : World) (hr : Kd.C k39 w A xs.length xs)
  (hp : ∀ x ∈ xs, ∀ w1 cs, Below w.heap.size w w1 → k39.K w1 x cs → Calls Tryz.prog g (#[.agg cs.toArray] ++ lb) w1 fun e w' => e = .returned (.bool (p x)) ∧ Below w1.heap.size w1 w') :
  Calls Tryz.prog 31 #[.slice A xs.length c, .func (.func g) #[] lb] w fun e w' => e = .returned (.bool (xs.any p)) ∧ Below w.heap.size w w' :=
 Go.Proofs.YtcmiehddjgfjaaaGreat.I.containsFunc layPoint k39 z39 Tryz.isAgg39 Tryz.sizeOf39 p g lb eg A c xs w hr hp
theorem indexPoint (p : S39 → Bool) (g : Nat) (lb : Array Value) (eg : ∀ args w, (callFunc g args).run Tryz.prog w = .ok (.enter g args) w) (A : Option Addr) (c : Nat) (xs : List S39) (w : World) (hr : Kd.C k39 w A xs.length xs)
  (hp : ∀ x ∈ xs, ∀ w1 cs, Below w.heap.size w w1 → k39.K w1 x cs → Calls Tryz.prog g (#[.agg cs.toArray] ++ lb) w1 fun e w' => e = .returned (.bool (p x)) ∧ Below w1.heap.size w1 w') :
  Calls Tryz.prog 72 #[.slice A xs.length c, .func (.func g) #[] lb] w fun e w' => e = .returned (.int .i64 (Go.Proofs.YtcmiehddjgfjaaaGreat.I.idxP p xs 0)) ∧ Below w.heap.size w w' :=
 Go.Proofs.YtcmiehddjgfjaaaGreat.I.indexFunc { layPoint with } k39 z39 Tryz.isAgg39 Tryz.sizeOf39 p g lb eg A c xs w hr hp
def laySeries_ren : Go.Shelf.Ren := ⟨fun | 6 => 85 | 8 => 50 | n => n, fun | 22 => 33 | 23 => 37 | 25 => 76 | n => n, fun | n => n⟩
theorem laySeries : Go.Proofs.SlLaysH0.n8 Tryz.prog laySeries_ren := {
 mixed := by kernel_rfl
 f6 := ⟨Tryz.f85.name, by decide, Tryz.func85.trans (congrArg some (by kernel_rfl))⟩
 f8 := ⟨Tryz.f50.name, by decide, Tryz.func50.trans (congrArg some (by kernel_rfl))⟩
 t0 := Tryz.underlying0
 a0 := Tryz.isAgg0
 z0 := Tryz.sizeOf0
 v0 := Tryz.zeroValue0
 t3 := Tryz.underlying3
 a3 := Tryz.isAgg3
 z3 := Tryz.sizeOf3
 v3 := Tryz.zeroValue3
 t4 := Tryz.underlying4
 a4 := Tryz.isAgg4
 z4 := Tryz.sizeOf4
 v4 := Tryz.zeroValue4
 t22 := Tryz.underlying33
 a22 := Tryz.isAgg33
 z22 := Tryz.sizeOf33
 v22 := Tryz.zeroValue33
 t25 := Tryz.underlying76
 a25 := Tryz.isAgg76
 z25 := Tryz.sizeOf76
 v25 := Tryz.zeroValue76 }
theorem containsSeries (p : S37 → Bool) (g : Nat) (lb : Array Value) (eg : ∀ args w, (callFunc g args).run Tryz.prog w = .ok (.enter g args) w) (A : Option Addr) (c : Nat) (xs : List S37) (w : World) (hr : Kd.C k37 w A xs.length xs)
  (hp : ∀ x ∈ xs, ∀ w1 cs, Below w.heap.size w w1 → k37.K w1 x cs → Calls Tryz.prog g (#[.agg cs.toArray] ++ lb) w1 fun e w' => e = .returned (.bool (p x)) ∧ Below w1.heap.size w1 w') :
  Calls Tryz.prog 50 #[.slice A xs.length c, .func (.func g) #[] lb] w fun e w' => e = .returned (.bool (xs.any p)) ∧ Below w.heap.size w w' :=
 Go.Proofs.YtcmiehddjgfjaaaGreat.I.containsFunc laySeries k37 z37 Tryz.isAgg37 Tryz.sizeOf37 p g lb eg A c xs w hr hp
def layLabel_ren : Go.Shelf.Ren := ⟨fun | 6 => 151 | 8 => 102 | n => n, fun | 22 => 35 | 23 => 62 | 25 => 122 | n => n, fun | n => n⟩
theorem layLabel : Go.Proofs.SlLaysH0.n8 Tryz.prog layLabel_ren := {
 mixed := by kernel_rfl
 f6 := ⟨Tryz.f151.name, by decide, Tryz.func151.trans (congrArg some (by kernel_rfl))⟩
 f8 := ⟨Tryz.f102.name, by decide, Tryz.func102.trans (congrArg some (by kernel_rfl))⟩
 t0 := Tryz.underlying0
 a0 := Tryz.isAgg0
 z0 := Tryz.sizeOf0
 v0 := Tryz.zeroValue0
 t3 := Tryz.underlying3
 a3 := Tryz.isAgg3
 z3 := Tryz.sizeOf3
 v3 := Tryz.zeroValue3
 t4 := Tryz.underlying4
 a4 := Tryz.isAgg4
 z4 := Tryz.sizeOf4
 v4 := Tryz.zeroValue4
 t22 := Tryz.underlying35
 a22 := Tryz.isAgg35
 z22 := Tryz.sizeOf35
 v22 := Tryz.zeroValue35
 t25 := Tryz.underlying122
 a25 := Tryz.isAgg122
 z25 := Tryz.sizeOf122
 v25 := Tryz.zeroValue122 }
theorem containsLabel (p : S62 → Bool) (g : Nat) (lb : Array Value) (eg : ∀ args w, (callFunc g args).run Tryz.prog w = .ok (.enter g args) w) (A : Option Addr) (c : Nat) (xs : List S62) (w : World) (hr : Kd.C k62 w A xs.length xs)
  (hp : ∀ x ∈ xs, ∀ w1 cs, Below w.heap.size w w1 → k62.K w1 x cs → Calls Tryz.prog g (#[.agg cs.toArray] ++ lb) w1 fun e w' => e = .returned (.bool (p x)) ∧ Below w1.heap.size w1 w') :
  Calls Tryz.prog 102 #[.slice A xs.length c, .func (.func g) #[] lb] w fun e w' => e = .returned (.bool (xs.any p)) ∧ Below w.heap.size w w' :=
 Go.Proofs.YtcmiehddjgfjaaaGreat.I.containsFunc layLabel k62 z62 Tryz.isAgg62 Tryz.sizeOf62 p g lb eg A c xs w hr hp
theorem indexLabel (p : S62 → Bool) (g : Nat) (lb : Array Value) (eg : ∀ args w, (callFunc g args).run Tryz.prog w = .ok (.enter g args) w) (A : Option Addr) (c : Nat) (xs : List S62) (w : World) (hr : Kd.C k62 w A xs.length xs)
  (hp : ∀ x ∈ xs, ∀ w1 cs, Below w.heap.size w w1 → k62.K w1 x cs → Calls Tryz.prog g (#[.agg cs.toArray] ++ lb) w1 fun e w' => e = .returned (.bool (p x)) ∧ Below w1.heap.size w1 w') :
  Calls Tryz.prog 151 #[.slice A xs.length c, .func (.func g) #[] lb] w fun e w' => e = .returned (.int .i64 (Go.Proofs.YtcmiehddjgfjaaaGreat.I.idxP p xs 0)) ∧ Below w.heap.size w w' :=
 Go.Proofs.YtcmiehddjgfjaaaGreat.I.indexFunc { layLabel with } k62 z62 Tryz.isAgg62 Tryz.sizeOf62 p g lb eg A c xs w hr hp
end Go.Proofs.YtcmiehddjgfjaaaGreat.A
namespace Go.Proofs.YtcmiehddjgfjaaaGreat.St.GSl
open Go.Proofs Go.Shelf Go.RowKit Go.Lib Go.Sort
/-- What the walks take of a program: its functions and types at these numbers. -/
structure StLays (P : Program) : Prop where
 mixed : P.follows .mixedOrders = true
 f30 : P.funcs[166]? = some Tryz.f166
 f33 : P.funcs[175]? = some Tryz.f175
 f34 : P.funcs[176]? = some Tryz.f176
 f36 : P.funcs[180]? = some Tryz.f180
 f37 : P.funcs[183]? = some Tryz.f183
 e33 : ∀ args w, (callFunc 175 args).run P w = .ok (.enter 175 args) w
 e34 : ∀ args w, (callFunc 176 args).run P w = .ok (.enter 176 args) w
 e36 : ∀ args w, (callFunc 180 args).run P w = .ok (.enter 180 args) w
 e37 : ∀ args w, (callFunc 183 args).run P w = .ok (.enter 183 args) w
 t3 : P.underlying 3 = some (TypeDesc.int IntKind.i64)
 a3 : ∀ w, (isAgg 3).run P w = .ok false w
 z3 : ∀ w, (Go.sizeOf 3).run P w = .ok 1 w
 v3 : ∀ w, (zeroValue 3).run P w = .ok (Value.int IntKind.i64 0) w
 t4 : P.underlying 4 = some (TypeDesc.bool)
 a4 : ∀ w, (isAgg 4).run P w = .ok false w
 z4 : ∀ w, (Go.sizeOf 4).run P w = .ok 1 w
 v4 : ∀ w, (zeroValue 4).run P w = .ok (Value.bool false) w
 t53 : P.underlying 141 = some (TypeDesc.int IntKind.u64)
 a53 : ∀ w, (isAgg 141).run P w = .ok false w
 z53 : ∀ w, (Go.sizeOf 141).run P w = .ok 1 w
 t22 : P.underlying 35 = some (TypeDesc.slice 62)
 a22 : ∀ w, (isAgg 35).run P w = .ok false w
 z22 : ∀ w, (Go.sizeOf 35).run P w = .ok 1 w
 t45 : P.underlying 115 = some (TypeDesc.func #[62, 62] #[3] false)
 a45 : ∀ w, (isAgg 115).run P w = .ok false w
 z45 : ∀ w, (Go.sizeOf 115).run P w = .ok 1 w
variable {P : Program} {α : Type} [Inhabited α]
theorem swapRange_w (L : StLays P) (k : Nat) (aE : ∀ w, (isAgg 62).run P w = .ok true w) (zE : ∀ w, (Go.sizeOf 62).run P w = .ok k w) (enc : α → List Value) (g : Nat) (cb : Array Value) (blk off cap a b n : Nat) (d0 d : Array α) (w0 w : World)
  (R : RowK enc k w0 blk off d0) (hs : d0.size = d.size) (S : SB enc k w0 blk off d w) (ha : a + n ≤ d.size) (hb : b + n ≤ d.size) (hsz : d.size < 4611686018427387904) :
  Calls P 183 #[.slice (some ⟨blk, off, none⟩) d.size cap, .int .i64 a, .int .i64 b, .int .i64 n, .func (.func g) #[] cb] w fun e w' => e = .returned (.tuple #[]) ∧ SB enc k w0 blk off (swpR a b 0 n d) w' := by
 have mixed := L.mixed; have t3 := L.t3; have a3 := L.a3; have z3 := L.z3; have v3 := L.v3; have t4 := L.t4; have a4 := L.a4; have z4 := L.z4; have v4 := L.v4; have t22 := L.t22; have a22 := L.a22; have z22 := L.z22
 have FG := L.f37
 have S0 : Aside (SB enc k w0 blk off d w) := S
 clear S
 go_enter FG, Tryz.ntmps183
 go_wp2_with fail
 go_loopg [10] n (fun kx s10 wr => ∃ (i : Nat) (dk : Array α), s10 = .int .i64 i ∧ i ≤ n ∧ kx = n - i ∧ dk.size = d.size ∧ Aside (SB enc k w0 blk off dk wr) ∧ swpR a b i (n - i) dk = swpR a b 0 n d)
 case atStart => exact ⟨0, d, rfl, Nat.zero_le _, rfl, rfl, S0, rfl⟩
 case round =>
  clear S0
  obtain ⟨i, dk, rfl, hin, hkx, hds, S1, heq⟩ := hrel
  by_cases hlt : i < n
  ·have hltz : (i : Int) < (n : Int) := by omega
   go_wp2_with fail
   have eA : ((a : Int) + (i : Int)).toNat = a + i := by omega
   have pA : (0 : Int) ≤ (a : Int) + (i : Int) := by omega
   have bA : (a : Int) + (i : Int) < (d.size : Int) := by omega
   have rA : IntKind.i64.wrap ((a : Int) + (i : Int)) = (a : Int) + (i : Int) := by rw [IntKind.wrap_i64]; omega
   have eB : ((b : Int) + (i : Int)).toNat = b + i := by omega
   have pB : (0 : Int) ≤ (b : Int) + (i : Int) := by omega
   have bB : (b : Int) + (i : Int) < (d.size : Int) := by omega
   have rB : IntKind.i64.wrap ((b : Int) + (i : Int)) = (b : Int) + (i : Int) := by rw [IntKind.wrap_i64]; omega
   have S2 : Aside (SB enc k w0 blk off (swp dk (a + i) (b + i)) ((wr.drew.setCells blk (off + (a + i) * k) (enc dk[b + i]!)).setCells blk (off + (b + i) * k) (enc dk[a + i]!))) := S1.out.swapped R (a + i) (b + i) (by omega) (by omega)
   have la := S1.out.ld1 R (by omega) P (a + i) (by omega)
   have lb := S1.out.ld1 R (by omega) P (b + i) (by omega)
   have sa := S1.out.st1 R (by omega) P (a + i) (by omega) dk[b + i]!
   have sb := S1.out.st2 R (by omega) P (a + i) (b + i) (by omega) (by omega) dk[b + i]! dk[a + i]!
   have na : (enc dk[a + i]!).length = k := R.hk _
   have nb : (enc dk[b + i]!).length = k := R.hk _
   generalize enc dk[a + i]! = cI at S2 la sb na
   generalize enc dk[b + i]! = cJ at S2 lb sa sb nb
   clear S1
   go_wp2_with fail
   go_big_region_o
   clear la lb sa sb
   generalize (wr.drew.setCells blk (off + (a + i) * k) cJ).setCells blk (off + (b + i) * k) cI = w2 at S2 ⊢
   go_wp2
   go_roundg (n - (i + 1))
   case measure => omega
   case rel =>
    rw [show n - i = n - (i + 1) + 1 by omega, swpR] at heq
    exact ⟨i + 1, swp dk (a + i) (b + i), by go_num, by omega, rfl, by rw [size_swp]; exact hds, S2, heq⟩
  ·have hi : i = n := by omega
   subst hi
   go_wp2
   go_end0
   refine ⟨rfl, ?_⟩
   rw [Nat.sub_self, swpR] at heq
   rw [← heq]
   exact S1.out
variable {P : Program} {α : Type} [Inhabited α]
theorem rotate_w (L : StLays P) (k : Nat) (aE : ∀ w, (isAgg 62).run P w = .ok true w) (zE : ∀ w, (Go.sizeOf 62).run P w = .ok k w) (enc : α → List Value) (g : Nat) (cb : Array Value) (blk off cap a m b : Nat) (d0 d : Array α) (w0 w : World)
  (R : RowK enc k w0 blk off d0) (hs : d0.size = d.size) (S : SB enc k w0 blk off d w) (ham : a < m) (hmb : m < b) (hb : b ≤ d.size) (hsz : d.size < 4611686018427387904) (t : List α) (ht : Left m t (m - a) (b - m) d) :
  Calls P 180 #[.slice (some ⟨blk, off, none⟩) d.size cap, .int .i64 a, .int .i64 m, .int .i64 b, .func (.func g) #[] cb] w fun e w' => e = .returned (.tuple #[]) ∧ ∃ d', d'.toList = t ∧ d'.size = d.size ∧ SB enc k w0 blk off d' w' := by
 have mixed := L.mixed; have t3 := L.t3; have a3 := L.a3; have z3 := L.z3; have v3 := L.v3; have t4 := L.t4; have a4 := L.a4; have z4 := L.z4; have v4 := L.v4; have t22 := L.t22; have a22 := L.a22; have z22 := L.z22
 have FG := L.f36
 have e37 := L.e37
 have S0 : Aside (SB enc k w0 blk off d w) := S
 have HT : Aside (Left m t (m - a) (b - m) d) := ht
 have LL : Aside (StLays P) := L
 clear S ht L
 have c1 : ((m - a : Nat) : Int) = (m : Int) - (a : Int) := by omega
 have c2 : ((b - m : Nat) : Int) = (b : Int) - (m : Int) := by omega
 have C1 := aside (c1)
 have C2 := aside (c2)
 clear c1 c2
 go_enter FG, Tryz.ntmps180
 go_wp2_with fail
 go_loopg [10, 11] (b - a) (fun kx s10 s11 wr => ∃ (i j : Nat) (dk : Array α), s10 = .int .i64 i ∧ s11 = .int .i64 j ∧ 0 < i ∧ 0 < j ∧ kx = i + j ∧ i ≤ m ∧ m + j ≤ d.size ∧ dk.size = d.size ∧ Aside (SB enc k w0 blk off dk wr) ∧ Aside (Left m t i j dk))
 case atStart => exact ⟨m - a, b - m, d, by rw [C1.out], by rw [C2.out], by omega, by omega, by omega, by omega, by omega, rfl, S0, HT⟩
 case round =>
  clear S0 HT
  obtain ⟨i, j, dk, rfl, rfl, hi, hj, hkx, him, hmj, hds, S1, HL⟩ := hrel
  have call : ∀ (x y n : Nat), x + n ≤ d.size → y + n ≤ d.size → Calls P 183 #[.slice (some ⟨blk, off, none⟩) d.size cap, .int .i64 x, .int .i64 y, .int .i64 n, .func (.func g) #[] cb] wr fun e w' => e = .returned (.tuple #[]) ∧ SB enc k w0 blk off (swpR x y 0 n dk) w' := by
   intro x y n hx hy
   rw [← hds]
   exact swapRange_w LL.out k aE zE enc g cb blk off cap x y n d0 dk w0 wr R (by omega) S1.out (by omega) (by omega) (by omega)
  have CALL := aside (call)
  clear call
  by_cases he : i = j
  ·subst he
   have c3 : ((m : Int) - (i : Int)) = ((m - i : Nat) : Int) := by omega
   have hc := CALL.out (m - i) m i (by omega) (by omega)
   have HL2 := aside (left_same HL.out)
   clear CALL HL
   go_wp2_with (go_at_fn 183; refine hc.mono ?_; rintro e w1 ⟨rfl, hw1⟩)
   go_end0
   exact ⟨rfl, _, HL2.out, by rw [swpR_size]; exact hds, hw1⟩
  ·by_cases hg : j < i
   ·have c3 : ((m : Int) - (i : Int)) = ((m - i : Nat) : Int) := by omega
    have hc := CALL.out (m - i) m j (by omega) (by omega)
    have HL2 := aside (left_great HL.out hg)
    clear CALL HL
    go_wp2_with (go_at_fn 183; refine hc.mono ?_; rintro e w1 ⟨rfl, hw1⟩)
    have S2 := aside (hw1)
    clear hw1 hc
    go_roundg (i - j + j)
    case measure => omega
    case rel => exact ⟨i - j, j, _, by go_num, rfl, by omega, by omega, rfl, by omega, by omega, by rw [swpR_size]; exact hds, S2, HL2⟩
   ·have c3 : ((m : Int) - (i : Int)) = ((m - i : Nat) : Int) := by omega
    have c4 : ((m : Int) + (j : Int) - (i : Int)) = ((m + j - i : Nat) : Int) := by omega
    have hc := CALL.out (m - i) (m + j - i) i (by omega) (by omega)
    have HL2 := aside (left_less HL.out (by omega))
    clear CALL HL
    go_wp2_with (go_at_fn 183; refine hc.mono ?_; rintro e w1 ⟨rfl, hw1⟩)
    have S2 := aside (hw1)
    clear hw1 hc
    go_roundg (i + (j - i))
    case measure => omega
    case rel => exact ⟨i, j - i, _, rfl, by go_num, by omega, by omega, rfl, by omega, by omega, by rw [swpR_size]; exact hds, S2, HL2⟩
open Go.Proofs.YtcmiehddjgfjaaaGreat.Stable
variable {P : Program} {α : Type} [Inhabited α]
theorem half_nat (i j : Nat) (hj : j < 4611686018427387904) (h : i < j) : ∃ h : Nat, ((i : Int) + (j : Int)) / 2 = (h : Int) ∧ i ≤ h ∧ h < j := ⟨(i + j) / 2, by omega, by omega, by omega⟩
theorem symLeft_w (L : StLays P) (k : Nat) (aE : ∀ w, (isAgg 62).run P w = .ok true w) (zE : ∀ w, (Go.sizeOf 62).run P w = .ok k w) (enc : α → List Value) (cf : α → α → Int) (g : Nat) (cb : Array Value) (eg : ∀ args w, (callFunc g args).run P w = .ok (.enter g args) w)
  (blk off cap a m b : Nat) (d0 d : Array α) (w0 w : World)
  (R : RowK enc k w0 blk off d0) (hs : d0.size = d.size) (hC : CmpB P g cb enc k cf blk off d.size w0) (O : Stable.Ord (ltOf cf)) (S : SB enc k w0 blk off d w) (hm : m = a + 1) (hmb : m < b) (hb : b ≤ d.size) (hsz : d.size < 4611686018427387904)
  (pre U V post : List α) (T : Two (ltOf cf) a m b pre U V post d) :
  Calls P 176 #[.slice (some ⟨blk, off, none⟩) d.size cap, .int .i64 a, .int .i64 m, .int .i64 b, .func (.func g) #[] cb] w fun e w' => e = .returned (.tuple #[]) ∧ ∃ d', d'.toList = pre ++ (merge (ltOf cf) U V ++ post) ∧ d'.size = d.size ∧ SB enc k w0 blk off d' w' := by
 have mixed := L.mixed; have t3 := L.t3; have a3 := L.a3; have z3 := L.z3; have v3 := L.v3; have t4 := L.t4; have a4 := L.a4; have z4 := L.z4; have v4 := L.v4; have t53 := L.t53; have a53 := L.a53; have z53 := L.z53; have t22 := L.t22; have a22 := L.a22; have z22 := L.z22; have t45 := L.t45
 have FG := L.f34
 have S0 : Aside (SB enc k w0 blk off d w) := S
 have HC : Aside (CmpB P g cb enc k cf blk off d.size w0) := hC
 have HT : Aside (Two (ltOf cf) a m b pre U V post d) := T
 have HO : Aside (Stable.Ord (ltOf cf)) := O
 have B0 : Aside (Bin (fun q => ltOf cf d[q]! d[a]!) m b m b) := Bin.start (T.mono1 O) (by omega)
 have HM : Aside (m = a + 1) := hm
 have am : a < m := by omega
 have tm : ((m : Int) - (a : Int) == 1) = true := by rw [beq_iff_eq]; omega
 have RR : Aside (RowK enc k w0 blk off d0) := R
 have HS : Aside (d0.size = d.size) := hs
 clear S hC T O hm L hs R
 go_enter FG, Tryz.ntmps176
 go_wp2_with fail
 go_loopg [10, 11] b (fun kx s10 s11 wr => ∃ (i j : Nat), s10 = .int .i64 i ∧ s11 = .int .i64 j ∧ m ≤ i ∧ i ≤ j ∧ j ≤ b ∧ Aside (kx = j - i + m) ∧ Aside (SB enc k w0 blk off d wr) ∧ Aside (Bin (fun q => ltOf cf d[q]! d[a]!) m b i j))
 case atStart => exact ⟨m, b, rfl, rfl, Nat.le_refl _, by omega, Nat.le_refl _, (show _ = _ by omega), S0, B0⟩
 case round =>
  clear S0 B0
  obtain ⟨i, j, rfl, rfl, hmi, hij, hjb, HK, S1, HB⟩ := hrel
  by_cases hlt : i < j
  ·have hltz : (i : Int) < (j : Int) := by omega
   obtain ⟨h, hh, hih, hhj⟩ := half_nat i j (by omega) hlt
   have pH : (0 : Int) ≤ (h : Int) := by omega
   have bH : (h : Int) < (d.size : Int) := by omega
   have bA : (a : Int) < (d.size : Int) := by omega
   have lh : ∀ p : SBW enc k w0 blk off d, Sem.run P (loadCellsFrom ⟨blk, off + h * k, none⟩ 0 k #[]) p.w = .ok (enc d[h]!).toArray p.w := fun p => p.h.load RR.out HS.out.symm P h (by omega)
   have la : ∀ p : SBW enc k w0 blk off d, Sem.run P (loadCellsFrom ⟨blk, off + a * k, none⟩ 0 k #[]) p.w = .ok (enc d[a]!).toArray p.w := fun p => p.h.load RR.out HS.out.symm P a (by omega)
   have hcg : ∀ p : SBW enc k w0 blk off d, Calls P g (#[.agg (enc d[h]!).toArray, .agg (enc d[a]!).toArray] ++ cb) p.w fun e w' => e = .returned (.int .i64 (cf d[h]! d[a]!)) ∧ ∃ q : SBW enc k w0 blk off d, w' = q.w := fun p => HC.out.at p rfl _ _
   have HR : Aside (∀ v, ltOf cf d[h]! d[a]! = v → (if v = true then Bin (fun q => ltOf cf d[q]! d[a]!) m b (h + 1) j else Bin (fun q => ltOf cf d[q]! d[a]!) m b i h)) := fun v hv => by
    cases v with
    | true => exact HB.out.right hih hhj hv
    | false => exact HB.out.left hih hhj hv
   obtain ⟨x, hx⟩ : ∃ x, d[h]! = x := ⟨_, rfl⟩
   obtain ⟨y, hy⟩ : ∃ y, d[a]! = y := ⟨_, rfl⟩
   rw [hx] at lh hcg
   rw [hy] at la hcg
   have HX : Aside (d[h]! = x) := hx
   have HY : Aside (d[a]! = y) := hy
   clear hx hy
   by_cases hlv : cf x y < 0
   ·have HL : Aside (ltOf cf d[h]! d[a]! = true) := by show _ = _; rw [HX.out, HY.out]; exact decide_eq_true hlv
    go_wp2_with fail
    haveI : Inhabited (SBW enc k w0 blk off d) := ⟨⟨_, S1.out⟩⟩
    refine wp_region_sb S1.out (by assumption) (by kernel_rfl) ?_
    repeat (quiet_step ((go_at_fn g; exact hcg _)))
    refine wpQuiet_nil ?_
    intro _ hw'
    obtain ⟨p, rfl⟩ := hw'
    go_wp2_with fail
    go_roundg (j - (h + 1) + m)
    case measure => have := HK.out; omega
    case rel => exact ⟨h + 1, j, by go_num, rfl, by omega, by omega, hjb, rfl, p.h, HR.out true HL.out⟩
   ·have HL : Aside (ltOf cf d[h]! d[a]! = false) := by show _ = _; rw [HX.out, HY.out]; exact decide_eq_false hlv
    go_wp2_with fail
    haveI : Inhabited (SBW enc k w0 blk off d) := ⟨⟨_, S1.out⟩⟩
    refine wp_region_sb S1.out (by assumption) (by kernel_rfl) ?_
    repeat (quiet_step ((go_at_fn g; exact hcg _)))
    refine wpQuiet_nil ?_
    intro _ hw'
    obtain ⟨p, rfl⟩ := hw'
    go_wp2_with fail
    go_roundg (h - i + m)
    case measure => have := HK.out; omega
    case rel => exact ⟨i, h, rfl, rfl, hmi, by omega, by omega, rfl, p.h, HR.out false HL.out⟩
  ·have hi : j = i := by omega
   subst hi
   have HD : Aside (MvR (pre ++ (merge (ltOf cf) U V ++ post)) j a d) := HT.out.one_left HO.out HM.out HB.out
   clear HB HK
   go_wp2_with fail
   go_loopg [13] (j - a) (fun kx s13 wr2 => ∃ (q : Nat) (dk : Array α), s13 = .int .i64 q ∧ a ≤ q ∧ q + 1 ≤ j ∧ Aside (kx = j - q) ∧ dk.size = d.size ∧ Aside (SB enc k w0 blk off dk wr2) ∧ Aside (MvR (pre ++ (merge (ltOf cf) U V ++ post)) j q dk))
   case atStart => exact ⟨a, d, rfl, Nat.le_refl _, by omega, rfl, rfl, S1, HD⟩
   case round =>
    clear S1 HD
    obtain ⟨q, dk, rfl, haq, hqj, HK, hds, S1, HD⟩ := hrel
    by_cases hq : q + 1 < j
    ·have hqz : (q : Int) < (j : Int) - 1 := by omega
     have e0 : ((q : Int) + 1).toNat = q + 1 := by omega
     have p0 : (0 : Int) ≤ (q : Int) + 1 := by omega
     have b0 : (q : Int) + 1 < (d.size : Int) := by omega
     have b1 : (q : Int) < (d.size : Int) := by omega
     go_wp2_with fail
     have S2 : Aside (SB enc k w0 blk off (swp dk q (q + 1)) ((wr.drew.setCells blk (off + q * k) (enc dk[q + 1]!)).setCells blk (off + (q + 1) * k) (enc dk[q]!))) := S1.out.swapped RR.out q (q + 1) (by omega) (by omega)
     have la := S1.out.ld1 RR.out (by have := HS.out; omega) P q (by omega)
     have lb := S1.out.ld1 RR.out (by have := HS.out; omega) P (q + 1) (by omega)
     have sa := S1.out.st1 RR.out (by have := HS.out; omega) P q (by omega) dk[q + 1]!
     have sb := S1.out.st2 RR.out (by have := HS.out; omega) P q (q + 1) (by omega) (by omega) dk[q + 1]! dk[q]!
     have na : (enc dk[q]!).length = k := RR.out.hk _
     have nb : (enc dk[q + 1]!).length = k := RR.out.hk _
     generalize enc dk[q]! = cI at S2 la sb na
     generalize enc dk[q + 1]! = cJ at S2 lb sa sb nb
     clear S1
     go_big_region_o
     clear la lb sa sb
     generalize (wr.drew.setCells blk (off + q * k) cJ).setCells blk (off + (q + 1) * k) cI = w2 at S2 ⊢
     go_wp2
     go_roundg (j - (q + 1))
     case measure => have := HK.out; omega
     case rel => exact ⟨q + 1, swp dk q (q + 1), by go_num, by omega, by omega, rfl, by rw [size_swp]; exact hds, S2, HD.out.step hq⟩
    ·have hqz : ¬ (q : Int) < (j : Int) - 1 := by omega
     go_wp2
     refine bodyPost_ret (results_none rfl _ _ _) rfl ?_
     exact ⟨rfl, dk, HD.out.done hq, hds, S1.out⟩
variable {P : Program} {α : Type} [Inhabited α]
theorem symRight_w (L : StLays P) (k : Nat) (aE : ∀ w, (isAgg 62).run P w = .ok true w) (zE : ∀ w, (Go.sizeOf 62).run P w = .ok k w) (enc : α → List Value) (cf : α → α → Int) (g : Nat) (cb : Array Value) (eg : ∀ args w, (callFunc g args).run P w = .ok (.enter g args) w)
  (blk off cap a m b : Nat) (d0 d : Array α) (w0 w : World)
  (R : RowK enc k w0 blk off d0) (hs : d0.size = d.size) (hC : CmpB P g cb enc k cf blk off d.size w0) (O : Stable.Ord (ltOf cf)) (S : SB enc k w0 blk off d w) (ham : a + 1 < m) (hm : b = m + 1) (hb : b ≤ d.size) (hsz : d.size < 4611686018427387904)
  (pre U V post : List α) (T : Two (ltOf cf) a m b pre U V post d) :
  Calls P 176 #[.slice (some ⟨blk, off, none⟩) d.size cap, .int .i64 a, .int .i64 m, .int .i64 b, .func (.func g) #[] cb] w fun e w' => e = .returned (.tuple #[]) ∧ ∃ d', d'.toList = pre ++ (merge (ltOf cf) U V ++ post) ∧ d'.size = d.size ∧ SB enc k w0 blk off d' w' := by
 have mixed := L.mixed; have t3 := L.t3; have a3 := L.a3; have z3 := L.z3; have v3 := L.v3; have t4 := L.t4; have a4 := L.a4; have z4 := L.z4; have v4 := L.v4; have t53 := L.t53; have a53 := L.a53; have z53 := L.z53; have t22 := L.t22; have a22 := L.a22; have z22 := L.z22; have t45 := L.t45
 have FG := L.f34
 have S0 : Aside (SB enc k w0 blk off d w) := S
 have HC : Aside (CmpB P g cb enc k cf blk off d.size w0) := hC
 have HT : Aside (Two (ltOf cf) a m b pre U V post d) := T
 have HO : Aside (Stable.Ord (ltOf cf)) := O
 have B0 : Aside (Bin (fun q => !ltOf cf d[m]! d[q]!) a m a m) := Bin.start (T.mono2 O) (by omega)
 have HM : Aside (b = m + 1) := hm
 have am : a < m := by omega
 have mb : m < b := by omega
 have tm : ((m : Int) - (a : Int) == 1) = false := by rw [beq_eq_false_iff_ne]; omega
 have tm2 : ((b : Int) - (m : Int) == 1) = true := by rw [beq_iff_eq]; omega
 have RR : Aside (RowK enc k w0 blk off d0) := R
 have HS : Aside (d0.size = d.size) := hs
 clear S hC T O hm L hs R
 go_enter FG, Tryz.ntmps176
 go_wp2_with fail
 go_loopg [14, 15] m (fun kx s10 s11 wr => ∃ (i j : Nat), s10 = .int .i64 i ∧ s11 = .int .i64 j ∧ a ≤ i ∧ i ≤ j ∧ j ≤ m ∧ Aside (kx = j - i + a) ∧ Aside (SB enc k w0 blk off d wr) ∧ Aside (Bin (fun q => !ltOf cf d[m]! d[q]!) a m i j))
 case atStart => exact ⟨a, m, rfl, rfl, Nat.le_refl _, by omega, Nat.le_refl _, (show _ = _ by omega), S0, B0⟩
 case round =>
  clear S0 B0
  obtain ⟨i, j, rfl, rfl, hmi, hij, hjb, HK, S1, HB⟩ := hrel
  by_cases hlt : i < j
  ·have hltz : (i : Int) < (j : Int) := by omega
   obtain ⟨h, hh, hih, hhj⟩ := half_nat i j (by omega) hlt
   have pH : (0 : Int) ≤ (h : Int) := by omega
   have bH : (h : Int) < (d.size : Int) := by omega
   have bA : (m : Int) < (d.size : Int) := by omega
   have lh : ∀ p : SBW enc k w0 blk off d, Sem.run P (loadCellsFrom ⟨blk, off + h * k, none⟩ 0 k #[]) p.w = .ok (enc d[h]!).toArray p.w := fun p => p.h.load RR.out HS.out.symm P h (by omega)
   have la : ∀ p : SBW enc k w0 blk off d, Sem.run P (loadCellsFrom ⟨blk, off + m * k, none⟩ 0 k #[]) p.w = .ok (enc d[m]!).toArray p.w := fun p => p.h.load RR.out HS.out.symm P m (by omega)
   have hcg : ∀ p : SBW enc k w0 blk off d, Calls P g (#[.agg (enc d[m]!).toArray, .agg (enc d[h]!).toArray] ++ cb) p.w fun e w' => e = .returned (.int .i64 (cf d[m]! d[h]!)) ∧ ∃ q : SBW enc k w0 blk off d, w' = q.w := fun p => HC.out.at p rfl _ _
   have HR : Aside (∀ v, ltOf cf d[m]! d[h]! = v → (if v = true then Bin (fun q => !ltOf cf d[m]! d[q]!) a m i h else Bin (fun q => !ltOf cf d[m]! d[q]!) a m (h + 1) j)) := fun v hv => by
    cases v with
    | true => exact HB.out.left hih hhj (by simp [hv])
    | false => exact HB.out.right hih hhj (by simp [hv])
   obtain ⟨x, hx⟩ : ∃ x, d[h]! = x := ⟨_, rfl⟩
   obtain ⟨y, hy⟩ : ∃ y, d[m]! = y := ⟨_, rfl⟩
   rw [hx] at lh hcg
   rw [hy] at la hcg
   have HX : Aside (d[h]! = x) := hx
   have HY : Aside (d[m]! = y) := hy
   clear hx hy
   by_cases hlv : cf y x < 0
   ·have HL : Aside (ltOf cf d[m]! d[h]! = true) := by show _ = _; rw [HY.out, HX.out]; exact decide_eq_true hlv
    go_wp2_with fail
    haveI : Inhabited (SBW enc k w0 blk off d) := ⟨⟨_, S1.out⟩⟩
    refine wp_region_sb S1.out (by assumption) (by kernel_rfl) ?_
    repeat (quiet_step ((go_at_fn g; exact hcg _)))
    refine wpQuiet_nil ?_
    intro _ hw'
    obtain ⟨p, rfl⟩ := hw'
    go_wp2_with fail
    go_roundg (h - i + a)
    case measure => have := HK.out; omega
    case rel => exact ⟨i, h, rfl, rfl, hmi, by omega, by omega, rfl, p.h, HR.out true HL.out⟩
   ·have HL : Aside (ltOf cf d[m]! d[h]! = false) := by show _ = _; rw [HY.out, HX.out]; exact decide_eq_false hlv
    have hdn : decide (cf y x < 0) = false := decide_eq_false hlv
    go_wp2_with fail
    haveI : Inhabited (SBW enc k w0 blk off d) := ⟨⟨_, S1.out⟩⟩
    refine wp_region_sb S1.out (by assumption) (by kernel_rfl) ?_
    repeat (quiet_step ((go_at_fn g; exact hcg _)))
    refine wpQuiet_nil ?_
    intro _ hw'
    obtain ⟨p, rfl⟩ := hw'
    go_wp2_with fail
    go_roundg (j - (h + 1) + a)
    case measure => have := HK.out; omega
    case rel => exact ⟨h + 1, j, by go_num, rfl, by omega, by omega, hjb, rfl, p.h, HR.out false HL.out⟩
  ·have hi : j = i := by omega
   subst hi
   have HD : Aside (MvL (pre ++ (merge (ltOf cf) U V ++ post)) j m d) := HT.out.one_right HO.out HM.out HB.out
   clear HB HK
   go_wp2_with fail
   go_loopg [17] (m - j) (fun kx s17 wr2 => ∃ (q : Nat) (dk : Array α), s17 = .int .i64 q ∧ q ≤ m ∧ j ≤ q ∧ Aside (kx = q - j) ∧ dk.size = d.size ∧ Aside (SB enc k w0 blk off dk wr2) ∧ Aside (MvL (pre ++ (merge (ltOf cf) U V ++ post)) j q dk))
   case atStart => exact ⟨m, d, rfl, Nat.le_refl _, by omega, rfl, rfl, S1, HD⟩
   case round =>
    clear S1 HD
    obtain ⟨q, dk, rfl, haq, hqj, HK, hds, S1, HD⟩ := hrel
    by_cases hq : j < q
    ·obtain ⟨q, rfl⟩ : ∃ r, q = r + 1 := ⟨q - 1, by omega⟩
     have hqz : (j : Int) < (q : Int) + 1 := by omega
     have e0 : ((q : Int) + 1).toNat = q + 1 := by omega
     have p0 : (0 : Int) ≤ (q : Int) + 1 := by omega
     have b0 : (q : Int) + 1 < (d.size : Int) := by omega
     have b1 : (q : Int) < (d.size : Int) := by omega
     have hwp : IntKind.i64.wrap (q : Int) = (q : Int) := by rw [IntKind.wrap_i64]; omega
     go_wp2_with fail
     have S2 : Aside (SB enc k w0 blk off (swp dk (q + 1) q) ((wr.drew.setCells blk (off + (q + 1) * k) (enc dk[q]!)).setCells blk (off + q * k) (enc dk[q + 1]!))) := S1.out.swapped RR.out (q + 1) q (by omega) (by omega)
     have la := S1.out.ld1 RR.out (by have := HS.out; omega) P (q + 1) (by omega)
     have lb := S1.out.ld1 RR.out (by have := HS.out; omega) P q (by omega)
     have sa := S1.out.st1 RR.out (by have := HS.out; omega) P (q + 1) (by omega) dk[q]!
     have sb := S1.out.st2 RR.out (by have := HS.out; omega) P (q + 1) q (by omega) (by omega) dk[q]! dk[q + 1]!
     have na : (enc dk[q + 1]!).length = k := RR.out.hk _
     have nb : (enc dk[q]!).length = k := RR.out.hk _
     generalize enc dk[q + 1]! = cI at S2 la sb na
     generalize enc dk[q]! = cJ at S2 lb sa sb nb
     clear S1
     go_big_region_o
     clear la lb sa sb
     generalize (wr.drew.setCells blk (off + (q + 1) * k) cJ).setCells blk (off + q * k) cI = w2 at S2 ⊢
     go_wp2
     go_roundg (q - j)
     case measure => have := HK.out; omega
     case rel => exact ⟨q, swp dk (q + 1) q, by go_num, by omega, by omega, rfl, by rw [size_swp]; exact hds, S2, HD.out.step hq⟩
    ·have hqz : ¬ (j : Int) < (q : Int) := by omega
     go_wp2
     refine bodyPost_ret (results_none rfl _ _ _) rfl ?_
     exact ⟨rfl, dk, HD.out.done hq, hds, S1.out⟩
variable {P : Program} {α : Type} [Inhabited α]
theorem mid_way (a m b : Nat) (am : a < m) (mb : m < b) : ∃ mid lo hi : Nat, ((a : Int) + (b : Int)) / 2 = (mid : Int) ∧ Mid a m b mid lo hi ∧ ((mid < m ∧ (mid : Int) + (m : Int) - (b : Int) = (lo : Int) ∧ hi = mid) ∨ (¬ mid < m ∧ lo = a ∧ hi = m)) := by
 by_cases h : (a + b) / 2 < m
 ·exact ⟨(a + b) / 2, (a + b) / 2 + m - b, (a + b) / 2, by omega, ⟨am, mb, rfl, .inl ⟨h, by omega, rfl⟩⟩, .inl ⟨h, by omega, rfl⟩⟩
 ·exact ⟨(a + b) / 2, a, m, by omega, ⟨am, mb, rfl, .inr ⟨by omega, rfl, rfl⟩⟩, .inr ⟨h, rfl, rfl⟩⟩
/-- What a call of symMerge does. -/
def SymDoes (P : Program) (enc : α → List Value) (k : Nat) (lt : α → α → Bool) (g : Nat) (cb : Array Value) (blk off cap a m b : Nat) (d : Array α) (w0 w : World) : Prop :=
 ∀ pre U V post : List α, Two lt a m b pre U V post d → Calls P 176 #[.slice (some ⟨blk, off, none⟩) d.size cap, .int .i64 a, .int .i64 m, .int .i64 b, .func (.func g) #[] cb] w fun e w' => e = .returned (.tuple #[]) ∧ ∃ d', d'.toList = pre ++ (merge lt U V ++ post) ∧ d'.size = d.size ∧ SB enc k w0 blk off d' w'
theorem symMid_w (L : StLays P) (k : Nat) (aE : ∀ w, (isAgg 62).run P w = .ok true w) (zE : ∀ w, (Go.sizeOf 62).run P w = .ok k w) (enc : α → List Value) (cf : α → α → Int) (g : Nat) (cb : Array Value) (eg : ∀ args w, (callFunc g args).run P w = .ok (.enter g args) w)
  (blk off cap a m b : Nat) (d0 d : Array α) (w0 w : World)
  (R : RowK enc k w0 blk off d0) (hs : d0.size = d.size) (hC : CmpB P g cb enc k cf blk off d.size w0) (O : Stable.Ord (ltOf cf)) (S : SB enc k w0 blk off d w) (ham : a + 1 < m) (hmb : m + 1 < b) (hb : b ≤ d.size) (hsz : d.size < 4611686018427387904)
  (pre U V post : List α) (T : Two (ltOf cf) a m b pre U V post d)
  (IH : ∀ (a' m' b' : Nat) (d' : Array α) (w' : World), b' - a' < b - a → d'.size = d.size → a' < m' → m' < b' → b' ≤ d.size → SB enc k w0 blk off d' w' → SymDoes P enc k (ltOf cf) g cb blk off cap a' m' b' d' w0 w') :
  Calls P 176 #[.slice (some ⟨blk, off, none⟩) d.size cap, .int .i64 a, .int .i64 m, .int .i64 b, .func (.func g) #[] cb] w fun e w' => e = .returned (.tuple #[]) ∧ ∃ d', d'.toList = pre ++ (merge (ltOf cf) U V ++ post) ∧ d'.size = d.size ∧ SB enc k w0 blk off d' w' := by
 obtain ⟨mid, lo, hi, hmid, M, way⟩ := mid_way a m b (by omega) (by omega)
 obtain ⟨f1, f2, f3, f4, f5, f6, f7⟩ := M.facts
 have B0 : Aside (Bin (fun c => !ltOf cf d[mid + m - 1 - c]! d[c]!) lo hi lo hi) := Bin.start (T.mono3 O f1 f3 f7) f2
 have F7 := aside (f7)
 have mixed := L.mixed; have t3 := L.t3; have a3 := L.a3; have z3 := L.z3; have v3 := L.v3; have t4 := L.t4; have a4 := L.a4; have z4 := L.z4; have v4 := L.v4; have t53 := L.t53; have a53 := L.a53; have z53 := L.z53; have t22 := L.t22; have a22 := L.a22; have z22 := L.z22; have t45 := L.t45
 have FG := L.f34
 have e34 := L.e34
 have e36 := L.e36
 have S0 : Aside (SB enc k w0 blk off d w) := S
 have HC : Aside (CmpB P g cb enc k cf blk off d.size w0) := hC
 have HT : Aside (Two (ltOf cf) a m b pre U V post d) := T
 have HO : Aside (Stable.Ord (ltOf cf)) := O
 have HM : Aside (Mid a m b mid lo hi) := M
 have HI := aside (IH)
 have tm : ((m : Int) - (a : Int) == 1) = false := by rw [beq_eq_false_iff_ne]; omega
 have tm2 : ((b : Int) - (m : Int) == 1) = false := by rw [beq_eq_false_iff_ne]; omega
 have RR : Aside (RowK enc k w0 blk off d0) := R
 have HS : Aside (d0.size = d.size) := hs
 have LL : Aside (StLays P) := L
 clear S hC T O M L hs R IH f7
 go_enter FG, Tryz.ntmps176
 have WAY := aside (way)
 have pp : ∃ pp : Nat, (mid : Int) + (m : Int) - 1 = (pp : Int) ∧ pp = mid + m - 1 := ⟨mid + m - 1, by omega, rfl⟩
 obtain ⟨pp, epp, hpp⟩ := pp
 have HPP := aside (hpp)
 have hpl : pp < d.size + d.size := by omega
 clear way hpp
 go_upto_if 140 with fail
 go_cut [20, 21] from 138 to 146 (fun s20 s21 wx => s20 = .int .i64 lo ∧ s21 = .int .i64 hi ∧ wx = w)
 case first =>
  rcases WAY.out with ⟨w1, eLo, rfl⟩ | ⟨w1, rfl, rfl⟩
  ·go_wp2_with fail
   go_meet
   exact ⟨rfl, rfl, rfl⟩
  ·go_wp2_with fail
   go_meet
   exact ⟨rfl, rfl, rfl⟩
 case rest =>
  obtain ⟨rfl, rfl, rfl⟩ := hcut
  clear WAY
  go_wp2_with fail
  go_loopg [20, 21] (hi - lo) (fun kx s20 s21 wr => ∃ (i j : Nat), s20 = .int .i64 i ∧ s21 = .int .i64 j ∧ lo ≤ i ∧ i ≤ j ∧ j ≤ hi ∧ Aside (kx = j - i) ∧ Aside (SB enc k w0 blk off d wr) ∧ Aside (Bin (fun c => !ltOf cf d[mid + m - 1 - c]! d[c]!) lo hi i j))
  case atStart => exact ⟨lo, hi, rfl, rfl, Nat.le_refl _, f2, Nat.le_refl _, rfl, S0, B0⟩
  case round =>
   clear S0 B0
   obtain ⟨i, j, rfl, rfl, hmi, hij, hjb, HK, S1, HB⟩ := hrel
   by_cases hlt : i < j
   ·have hltz : (i : Int) < (j : Int) := by omega
    obtain ⟨c, hh, hih, hhj⟩ := half_nat i j (by omega) hlt
    obtain ⟨g1, g2, g3⟩ := F7.out c (by omega) (by omega)
    have q1 : c ≤ pp := by have := HPP.out; omega
    have q2 : pp - c < b := by have := HPP.out; omega
    have q3 : mid + m - 1 - c = pp - c := by have := HPP.out; omega
    have Q3 := aside (q3)
    clear g1 g2 g3 q3
    have e0 : ((pp : Int) - (c : Int)).toNat = pp - c := by omega
    have p0 : (0 : Int) ≤ (pp : Int) - (c : Int) := by omega
    have rP : IntKind.i64.wrap ((pp : Int) - (c : Int)) = (pp : Int) - (c : Int) := by rw [IntKind.wrap_i64]; omega
    have b0 : (pp : Int) - (c : Int) < (d.size : Int) := by omega
    have pH : (0 : Int) ≤ (c : Int) := by omega
    have bH : (c : Int) < (d.size : Int) := by omega
    have lh : ∀ p : SBW enc k w0 blk off d, Sem.run P (loadCellsFrom ⟨blk, off + (pp - c) * k, none⟩ 0 k #[]) p.w = .ok (enc d[pp - c]!).toArray p.w := fun p => p.h.load RR.out HS.out.symm P (pp - c) (by omega)
    have la : ∀ p : SBW enc k w0 blk off d, Sem.run P (loadCellsFrom ⟨blk, off + c * k, none⟩ 0 k #[]) p.w = .ok (enc d[c]!).toArray p.w := fun p => p.h.load RR.out HS.out.symm P c (by omega)
    have hcg : ∀ p : SBW enc k w0 blk off d, Calls P g (#[.agg (enc d[pp - c]!).toArray, .agg (enc d[c]!).toArray] ++ cb) p.w fun e w' => e = .returned (.int .i64 (cf d[pp - c]! d[c]!)) ∧ ∃ q : SBW enc k w0 blk off d, w' = q.w := fun p => HC.out.at p rfl _ _
    have HR : Aside (∀ v, ltOf cf d[pp - c]! d[c]! = v → (if v = true then Bin (fun c => !ltOf cf d[mid + m - 1 - c]! d[c]!) lo hi i c else Bin (fun c => !ltOf cf d[mid + m - 1 - c]! d[c]!) lo hi (c + 1) j)) := fun v hv => by
     cases v with
     | true => exact HB.out.left hih hhj (by simp only [Q3.out]; simp [hv])
     | false => exact HB.out.right hih hhj (by simp only [Q3.out]; simp [hv])
    obtain ⟨x, hx⟩ : ∃ x, d[pp - c]! = x := ⟨_, rfl⟩
    obtain ⟨y, hy⟩ : ∃ y, d[c]! = y := ⟨_, rfl⟩
    rw [hx] at lh hcg
    rw [hy] at la hcg
    have HX : Aside (d[pp - c]! = x) := hx
    have HY : Aside (d[c]! = y) := hy
    clear hx hy
    by_cases hlv : cf x y < 0
    ·have HL : Aside (ltOf cf d[pp - c]! d[c]! = true) := by show _ = _; rw [HX.out, HY.out]; exact decide_eq_true hlv
     go_wp2_with fail
     haveI : Inhabited (SBW enc k w0 blk off d) := ⟨⟨_, S1.out⟩⟩
     refine wp_region_sb S1.out (by assumption) (by kernel_rfl) ?_
     repeat (quiet_step ((go_at_fn g; exact hcg _)))
     refine wpQuiet_nil ?_
     intro _ hw'
     obtain ⟨p, rfl⟩ := hw'
     go_wp2_with fail
     go_roundg (c - i)
     case measure => have := HK.out; omega
     case rel => exact ⟨i, c, rfl, rfl, hmi, by omega, by omega, rfl, p.h, HR.out true HL.out⟩
    ·have HL : Aside (ltOf cf d[pp - c]! d[c]! = false) := by show _ = _; rw [HX.out, HY.out]; exact decide_eq_false hlv
     have hdn : decide (cf x y < 0) = false := decide_eq_false hlv
     go_wp2_with fail
     haveI : Inhabited (SBW enc k w0 blk off d) := ⟨⟨_, S1.out⟩⟩
     refine wp_region_sb S1.out (by assumption) (by kernel_rfl) ?_
     repeat (quiet_step ((go_at_fn g; exact hcg _)))
     refine wpQuiet_nil ?_
     intro _ hw'
     obtain ⟨p, rfl⟩ := hw'
     go_wp2_with fail
     go_roundg (j - (c + 1))
     case measure => have := HK.out; omega
     case rel => exact ⟨c + 1, j, by go_num, rfl, by omega, by omega, hjb, rfl, p.h, HR.out false HL.out⟩
   ·have hi' : j = i := by omega
    subst hi'
    have hP : Parts (ltOf cf) a m b mid j (mid + m - j) U V := HT.out.parts HO.out HM.out HB.out
    have HP : Aside (Parts (ltOf cf) a m b mid j (mid + m - j) U V) := hP
    have eE : ∃ e : Nat, (mid : Int) + (m : Int) - (j : Int) = (e : Int) ∧ mid + m - j = e := ⟨mid + m - j, by omega, rfl⟩
    obtain ⟨e, eE, he⟩ := eE
    rw [he] at hP HP
    have k1 := hP.sa; have k2 := hP.sm; have k3 := hP.smid; have k4 := hP.me; have k5 := hP.eb; have k6 := hP.mide
    clear HB HK he hP F7
    go_upto_region 39 with fail
    go_cut [185] from 178 to 184 (fun s wx => s = .bool (decide (j < m) && decide (m < e)) ∧ wx = wr)
    case first =>
     by_cases h1 : j < m
     ·go_wp2_with fail
      go_meet
      exact ⟨by simp [h1], rfl⟩
     ·go_wp2_with fail
      go_meet
      exact ⟨by simp [h1], rfl⟩
    case rest =>
     obtain ⟨rfl, rfl⟩ := hcut
     go_upto_if 185 with fail
     go_cut [] from 185 to 191 (fun wx => ∃ d1 : Array α, Aside (St1 U V pre post a m j e d.size d1) ∧ Aside (SB enc k w0 blk off d1 wx))
     case first =>
      by_cases h1 : j < m
      ·by_cases h2 : m < e
       ·have hc := rotate_w LL.out k aE zE enc g cb blk off cap j m e d0 d w0 _ RR.out HS.out S1.out h1 h2 (by omega) hsz _ (HP.out.left HT.out.la HT.out.list)
        have HC2 := aside (hc)
        clear hc
        go_wp2_with (go_at_fn 180; refine HC2.out.mono ?_; rintro e1 w1 ⟨rfl, d1, hd1, hd2, hd3⟩)
        go_meet
        exact ⟨d1, ⟨hd1, hd2⟩, hd3⟩
       ·go_wp2_with fail
        go_meet
        exact ⟨d, HP.out.st1_none HT.out.list rfl (fun h => h2 h.2), S1⟩
      ·go_wp2_with fail
       go_meet
       exact ⟨d, HP.out.st1_none HT.out.list rfl (fun h => h1 h.1), S1⟩
     case rest =>
      clear S1
      obtain ⟨d1, HD1, S1⟩ := hcut
      go_upto_region 41 with fail
      go_cut [199] from 192 to 198 (fun s wx => s = .bool (decide (a < j) && decide (j < mid)) ∧ wx = wc)
      case first =>
       by_cases h1 : a < j
       ·go_wp2_with fail
        go_meet
        exact ⟨by simp [h1], rfl⟩
       ·go_wp2_with fail
        go_meet
        exact ⟨by simp [h1], rfl⟩
      case rest =>
       obtain ⟨rfl, rfl⟩ := hcut
       go_upto_if 199 with fail
       go_cut [] from 199 to 205 (fun wx => ∃ d2 : Array α, Aside (St2 (ltOf cf) U V pre post a m j e d.size d2) ∧ Aside (SB enc k w0 blk off d2 wx))
       case first =>
        by_cases h1 : a < j
        ·by_cases h2 : j < mid
         ·have hc := HI.out a j mid d1 _ (by omega) HD1.out.2 h1 h2 (by omega) S1.out _ _ _ _ (HD1.out.two HP.out HT.out.la)
          rw [HD1.out.2] at hc
          have HC2 := aside (hc)
          clear hc
          go_wp2_with (go_at_fn 176; refine HC2.out.mono ?_; rintro e1 w1 ⟨rfl, d2, hd1, hd2, hd3⟩)
          go_meet
          exact ⟨d2, St2.of hd1 hd2, hd3⟩
         ·go_wp2_with fail
          go_meet
          exact ⟨d1, HD1.out.none HP.out (fun h => h2 h.2), S1⟩
        ·go_wp2_with fail
         go_meet
         exact ⟨d1, HD1.out.none HP.out (fun h => h1 h.1), S1⟩
       case rest =>
        clear S1 HD1
        obtain ⟨d2, HD2, S2⟩ := hcut
        by_cases h1 : mid < e
        ·by_cases h2 : e < b
         ·have hc := HI.out mid e b d2 _ (by omega) HD2.out.2 h1 h2 (by omega) S2.out _ _ _ _ (HD2.out.two HP.out HT.out.la)
          rw [HD2.out.2] at hc
          have HC2 := aside (hc)
          clear hc
          go_wp2_with (go_at_fn 176; refine HC2.out.mono ?_; rintro e1 w1 ⟨rfl, d3, hd1, hd2, hd3⟩)
          go_end0
          have h3 := St3.of (post := post) (n := d.size) HP.out hd1 hd2
          exact ⟨rfl, d3, h3.1, h3.2, hd3⟩
         ·go_wp2_with fail
          go_end0
          have h3 := HD2.out.none HP.out (fun h => h2 h.2)
          exact ⟨rfl, d2, h3.1, h3.2, S2.out⟩
        ·go_wp2_with fail
         go_end0
         have h3 := HD2.out.none HP.out (fun h => h1 h.1)
         exact ⟨rfl, d2, h3.1, h3.2, S2.out⟩
/-- Two sorted neighbours in one. -/
theorem symMerge_w (L : StLays P) (k : Nat) (aE : ∀ w, (isAgg 62).run P w = .ok true w) (zE : ∀ w, (Go.sizeOf 62).run P w = .ok k w) (enc : α → List Value) (cf : α → α → Int) (g : Nat) (cb : Array Value) (eg : ∀ args w, (callFunc g args).run P w = .ok (.enter g args) w)
  (blk off cap n : Nat) (d0 : Array α) (w0 : World) (R : RowK enc k w0 blk off d0) (hs : d0.size = n) (hC : CmpB P g cb enc k cf blk off n w0) (O : Stable.Ord (ltOf cf)) (hsz : n < 4611686018427387904) :
  ∀ (q a m b : Nat) (d : Array α) (w : World), b - a ≤ q → d.size = n → a < m → m < b → b ≤ n → SB enc k w0 blk off d w → SymDoes P enc k (ltOf cf) g cb blk off cap a m b d w0 w
 | 0, a, m, b, d, w, hq, _, h1, h2, _, _ => by omega
 | q + 1, a, m, b, d, w, hq, hd, h1, h2, hb, S => by
  subst hd
  intro pre U V post T
  by_cases c1 : m = a + 1
  ·exact symLeft_w L k aE zE enc cf g cb eg blk off cap a m b d0 d w0 w R hs hC O S c1 h2 hb hsz pre U V post T
  ·by_cases c2 : b = m + 1
   ·exact symRight_w L k aE zE enc cf g cb eg blk off cap a m b d0 d w0 w R hs hC O S (by omega) c2 hb hsz pre U V post T
   ·exact symMid_w L k aE zE enc cf g cb eg blk off cap a m b d0 d w0 w R hs hC O S (by omega) (by omega) hb hsz pre U V post T
     (fun a' m' b' d' w' hlt hd' x1 x2 x3 S' => symMerge_w L k aE zE enc cf g cb eg blk off cap _ d0 w0 R hs hC O hsz q a' m' b' d' w' (by omega) hd' x1 x2 (by omega) S')
variable {P : Program} {α : Type} [Inhabited α]
theorem insertion_w (L : StLays P) (k : Nat) (aE : ∀ w, (isAgg 62).run P w = .ok true w) (zE : ∀ w, (Go.sizeOf 62).run P w = .ok k w) (enc : α → List Value) (cf : α → α → Int) (g : Nat) (cb : Array Value) (eg : ∀ args w, (callFunc g args).run P w = .ok (.enter g args) w)
  (blk off cap a b n : Nat) (d0 d : Array α) (w0 w : World)
  (R : RowK enc k w0 blk off d0) (hs : d0.size = n) (hn : d.size = n) (hC : CmpB P g cb enc k cf blk off n w0) (O : Stable.Ord (ltOf cf)) (S : SB enc k w0 blk off d w) (hsz : n < 4611686018427387904)
  (pre seg post : List α) (T : d.toList = pre ++ (seg ++ post)) (la : pre.length = a) (lb : seg.length + a = b) :
  Calls P 175 #[.slice (some ⟨blk, off, none⟩) n cap, .int .i64 a, .int .i64 b, .func (.func g) #[] cb] w fun e w' => e = .returned (.tuple #[]) ∧ ∃ d', d'.toList = pre ++ (isort (ltOf cf) seg ++ post) ∧ d'.size = n ∧ SB enc k w0 blk off d' w' := by
 have hbn : b ≤ n := by
  have h1 : d.toList.length = n := by rw [Array.length_toList]; exact hn
  rw [T] at h1; simp at h1; omega
 have mixed := L.mixed; have t3 := L.t3; have a3 := L.a3; have z3 := L.z3; have v3 := L.v3; have t4 := L.t4; have a4 := L.a4; have z4 := L.z4; have v4 := L.v4; have t22 := L.t22; have a22 := L.a22; have z22 := L.z22; have t45 := L.t45
 have FG := L.f33
 have HC : Aside (CmpB P g cb enc k cf blk off n w0) := hC
 have HO : Aside (Stable.Ord (ltOf cf)) := O
 have RR : Aside (RowK enc k w0 blk off d0) := R
 have HS : Aside (d0.size = n) := hs
 have S0 : Aside (SB enc k w0 blk off d w) := S
 have T0 : Aside (Outer (ltOf cf) pre seg post a (a + 1) d) := Outer.start T
 have LA : Aside (pre.length = a) := la
 have LB : Aside (seg.length + a = b) := lb
 have hab : a ≤ b := by omega
 have HN : Aside (d.size = n) := hn
 clear hC O R hs S T la lb L hn
 go_enter FG, Tryz.ntmps175
 go_wp2_with fail
 go_loopg [8] (b - a) (fun g1 vi wr => ∃ (i : Nat) (dk : Array α), vi = .int .i64 i ∧ a < i ∧ i ≤ b + 1 ∧ b + 1 - i ≤ g1 + 1 ∧ Aside (dk.size = n) ∧ Aside (SB enc k w0 blk off dk wr) ∧ Aside (Outer (ltOf cf) pre seg post a i dk))
 case atStart => exact ⟨a + 1, d, by go_num, by omega, by omega, by omega, HN, S0, T0⟩
 case round =>
  clear S0 T0 HN
  obtain ⟨i, dk, rfl, hai, hib, hg1, HN, S1, HT⟩ := hrel
  by_cases hlt : i < b
  ·have hltz : (i : Int) < (b : Int) := by omega
   obtain ⟨xi, hIns, hOut⟩ := HT.out.next hai (by have := LB.out; omega)
   have HI := aside hIns
   have HOU := aside hOut
   clear hIns hOut HT
   obtain ⟨wo, hwo⟩ : ∃ wo : World, wo = wr := ⟨_, rfl⟩
   subst hwo
   go_wp2_with fail
   go_loopg [9] i (fun g2 vj wr2 => ∃ (j : Nat) (dj : Array α), vj = .int .i64 j ∧ a ≤ j ∧ j ≤ i ∧ j ≤ g2 ∧ Aside (dj.size = n) ∧ Aside (SB enc k w0 blk off dj wr2) ∧ Aside (Ins (ltOf cf) pre (isort (ltOf cf) (seg.take (i - a))) (seg.drop (i + 1 - a) ++ post) xi a j dj))
   case atStart => exact ⟨i, dk, rfl, by omega, Nat.le_refl _, Nat.le_refl _, HN, S1, HI⟩
   case round =>
    clear HN S1 HI
    obtain ⟨j, dj, rfl, haj, hji, hg2, HN, S1, HI⟩ := hrel
    have out : (j ≤ a ∨ ltOf cf dj[j]! dj[j - 1]! = false) → Outer (ltOf cf) pre seg post a (i + 1) dj := fun hst => HOU.out dj (HI.out.done HO.out LA.out (isort_sorted HO.out _) hst)
    have OUT := aside out
    clear out
    by_cases hja : a < j
    ·have hjaz : (a : Int) < (j : Int) := by omega
     obtain ⟨jp, rfl⟩ : ∃ jp, j = jp + 1 := ⟨j - 1, by omega⟩
     have hwp : IntKind.i64.wrap (jp : Int) = (jp : Int) := by rw [IntKind.wrap_i64]; omega
     have jz : (jp : Int) + 1 < (n : Int) := by omega
     have jz1 : (jp : Int) < (n : Int) := by omega
     have hjaz' : (a : Int) < (jp : Int) + 1 := by omega
     have p0 : (0 : Int) ≤ (jp : Int) + 1 := by omega
     have e0 : ((jp : Int) + 1).toNat = jp + 1 := by omega
     have hsd : dj.size = d0.size := by rw [HN.out, HS.out]
     have lj : ∀ p : SBW enc k w0 blk off dj, Sem.run P (loadCellsFrom ⟨blk, off + (jp + 1) * k, none⟩ 0 k #[]) p.w = .ok (enc dj[jp + 1]!).toArray p.w := fun p => p.h.load RR.out hsd P (jp + 1) (by have := HN.out; omega)
     have lp : ∀ p : SBW enc k w0 blk off dj, Sem.run P (loadCellsFrom ⟨blk, off + jp * k, none⟩ 0 k #[]) p.w = .ok (enc dj[jp]!).toArray p.w := fun p => p.h.load RR.out hsd P jp (by have := HN.out; omega)
     have hcg : ∀ p : SBW enc k w0 blk off dj, Calls P g (#[.agg (enc dj[jp + 1]!).toArray, .agg (enc dj[jp]!).toArray] ++ cb) p.w fun e w' => e = .returned (.int .i64 (cf dj[jp + 1]! dj[jp]!)) ∧ ∃ q : SBW enc k w0 blk off dj, w' = q.w := fun p => HC.out.at p HN.out _ _
     have HSD := aside hsd
     clear hsd
     obtain ⟨x, hx⟩ : ∃ x, dj[jp + 1]! = x := ⟨_, rfl⟩
     obtain ⟨y, hy⟩ : ∃ y, dj[jp]! = y := ⟨_, rfl⟩
     rw [hx] at lj hcg
     rw [hy] at lp hcg
     have HX := aside hx
     have HY := aside hy
     clear hx hy
     by_cases hlv : cf x y < 0
     ·have HL : Aside (ltOf cf dj[jp + 1]! dj[jp]! = true) := by show _ = _; rw [HX.out, HY.out]; exact decide_eq_true hlv
      go_wp2_with fail
      haveI : Inhabited (SBW enc k w0 blk off dj) := ⟨⟨_, S1.out⟩⟩
      refine wp_region_sb S1.out (by assumption) (by kernel_rfl) ?_
      repeat (quiet_step ((go_at_fn g; exact hcg _)))
      refine wpQuiet_nil ?_
      intro _ hw'
      obtain ⟨p, rfl⟩ := hw'
      go_wp2_with fail
      have S2 : Aside (SB enc k w0 blk off (swp dj (jp + 1) jp) ((p.w.drew.setCells blk (off + (jp + 1) * k) (enc dj[jp]!)).setCells blk (off + jp * k) (enc dj[jp + 1]!))) := p.h.swapped RR.out (jp + 1) jp (by have := HN.out; omega) (by have := HN.out; omega)
      have la := p.h.ld1 RR.out HSD.out P (jp + 1) (by have := HN.out; omega)
      have lb := p.h.ld1 RR.out HSD.out P jp (by have := HN.out; omega)
      have sa := p.h.st1 RR.out HSD.out P (jp + 1) (by have := HN.out; omega) dj[jp]!
      have sb := p.h.st2 RR.out HSD.out P (jp + 1) jp (by have := HN.out; omega) (by have := HN.out; omega) dj[jp]! dj[jp + 1]!
      have na : (enc dj[jp + 1]!).length = k := RR.out.hk _
      have nb : (enc dj[jp]!).length = k := RR.out.hk _
      generalize enc dj[jp + 1]! = cI at S2 la sb na
      generalize enc dj[jp]! = cJ at S2 lb sa sb nb
      clear S1 lj lp hcg
      generalize p.w = wp at S2 la lb sa sb ⊢
      clear p
      go_big_region_o
      clear la lb sa sb
      generalize (wp.drew.setCells blk (off + (jp + 1) * k) cJ).setCells blk (off + jp * k) cI = w2 at S2 ⊢
      go_wp2
      go_roundg jp
      case measure => omega
      case rel => exact ⟨jp, swp dj (jp + 1) jp, by first | rfl | go_num | (congr 1; omega), by omega, by omega, Nat.le_refl _, (show _ = _ by rw [size_swp]; exact HN.out), S2, HI.out.step LA.out hja HL.out⟩
     ·have HL : Aside (ltOf cf dj[jp + 1]! dj[jp]! = false) := by show _ = _; rw [HX.out, HY.out]; exact decide_eq_false hlv
      have hdn : decide (cf x y < 0) = false := decide_eq_false hlv
      go_wp2_with fail
      haveI : Inhabited (SBW enc k w0 blk off dj) := ⟨⟨_, S1.out⟩⟩
      refine wp_region_sb S1.out (by assumption) (by kernel_rfl) ?_
      repeat (quiet_step ((go_at_fn g; exact hcg _)))
      refine wpQuiet_nil ?_
      intro _ hw'
      obtain ⟨p, rfl⟩ := hw'
      go_wp2
      go_roundg (b - (i + 1))
      case measure => omega
      case rel => exact ⟨i + 1, dj, by go_num, by omega, by omega, by omega, HN, p.h, OUT.out (.inr (by simpa using HL.out))⟩
    ·have hjaz : decide ((j : Int) > (a : Int)) = false := decide_eq_false (by omega)
     have hjaz' : ¬ (a : Int) < (j : Int) := by omega
     have S2 : Aside (SB enc k w0 blk off dj wr.drew) := S1.out.drew
     clear S1
     go_wp2_with fail
     go_big_region_o
     all_goals go_wp2
     go_roundg (b - (i + 1))
     case measure => omega
     case rel => exact ⟨i + 1, dj, by go_num, by omega, by omega, by omega, HN, S2, OUT.out (.inl (by omega))⟩
  ·have hltz : ¬ (i : Int) < (b : Int) := by omega
   go_wp2
   go_end0
   exact ⟨rfl, dk, HT.out.done (by have := LB.out; omega), HN.out, S1.out⟩
variable {P : Program} {α : Type} [Inhabited α]
theorem stable_w (L : StLays P) (k : Nat) (aE : ∀ w, (isAgg 62).run P w = .ok true w) (zE : ∀ w, (Go.sizeOf 62).run P w = .ok k w) (enc : α → List Value) (cf : α → α → Int) (g : Nat) (cb : Array Value) (eg : ∀ args w, (callFunc g args).run P w = .ok (.enter g args) w)
  (blk off cap n : Nat) (d0 : Array α) (w0 : World)
  (R : RowK enc k w0 blk off d0) (hs : d0.size = n) (hC : CmpB P g cb enc k cf blk off n w0) (O : Stable.Ord (ltOf cf)) (hsz : n < 1152921504606846976) :
  Calls P 166 #[.slice (some ⟨blk, off, none⟩) n cap, .int .i64 n, .func (.func g) #[] cb] w0 fun e w' => e = .returned (.tuple #[]) ∧ ∃ d' : Array α, d'.toList = isort (ltOf cf) d0.toList ∧ d'.size = n ∧ SB enc k w0 blk off d' w' := by
 have mixed := L.mixed; have t3 := L.t3; have a3 := L.a3; have z3 := L.z3; have v3 := L.v3; have t4 := L.t4; have a4 := L.a4; have z4 := L.z4; have v4 := L.v4; have t22 := L.t22; have a22 := L.a22; have z22 := L.z22; have t45 := L.t45
 have FG := L.f30
 have e33 := L.e33
 have e34 := L.e34
 have hl : d0.toList.length = n := by rw [Array.length_toList]; exact hs
 have INS : Aside (∀ (a b : Nat) (d : Array α) (w : World) (pre seg post : List α), d.size = n → SB enc k w0 blk off d w → d.toList = pre ++ (seg ++ post) → pre.length = a → seg.length + a = b →
  Calls P 175 #[.slice (some ⟨blk, off, none⟩) n cap, .int .i64 a, .int .i64 b, .func (.func g) #[] cb] w fun e w' => e = .returned (.tuple #[]) ∧ ∃ d', d'.toList = pre ++ (isort (ltOf cf) seg ++ post) ∧ d'.size = n ∧ SB enc k w0 blk off d' w') :=
  fun a b d w pre seg post hn S T la lb => insertion_w L k aE zE enc cf g cb eg blk off cap a b n d0 d w0 w R hs hn hC O S (by omega) pre seg post T la lb
 have SYM : Aside (∀ (a m b : Nat) (d : Array α) (w : World) (pre U V post : List α), d.size = n → a < m → m < b → b ≤ n → SB enc k w0 blk off d w → Two (ltOf cf) a m b pre U V post d →
  Calls P 176 #[.slice (some ⟨blk, off, none⟩) n cap, .int .i64 a, .int .i64 m, .int .i64 b, .func (.func g) #[] cb] w fun e w' => e = .returned (.tuple #[]) ∧ ∃ d', d'.toList = pre ++ (merge (ltOf cf) U V ++ post) ∧ d'.size = n ∧ SB enc k w0 blk off d' w') :=
  fun a m b d w pre U V post hn h1 h2 h3 S T => by
   have := symMerge_w L k aE zE enc cf g cb eg blk off cap n d0 w0 R hs hC O (by omega) (b - a) a m b d w (Nat.le_refl _) hn h1 h2 h3 S pre U V post T
   rw [hn] at this
   exact this
 have S0 : Aside (SB enc k w0 blk off d0 w0) := SB.start R.hH
 have P0 : Aside (Pass0 (ltOf cf) 20 d0.toList 0 d0) := Pass0.start 20 d0
 have HO := aside O
 have HL := aside hl
 have HS0 := aside hs
 clear hC O R hs L hl eg
 go_enter FG, Tryz.ntmps166
 go_wp2_with fail
 go_loopg [7, 8] n (fun kx s7 s8 wr => ∃ (a : Nat) (d : Array α), s7 = .int .i64 a ∧ s8 = .int .i64 ((a + 20 : Nat) : Int) ∧ a ≤ n ∧ Aside (kx = n - a) ∧ Aside (d.size = n) ∧ Aside (SB enc k w0 blk off d wr) ∧ Aside (Pass0 (ltOf cf) 20 d0.toList a d))
 case atStart => exact ⟨0, d0, rfl, rfl, Nat.zero_le _, rfl, HS0, S0, P0⟩
 case round =>
  clear S0 P0 HS0
  obtain ⟨a, d, rfl, rfl, han, HK, HN, S1, HP⟩ := hrel
  by_cases hb : a + 20 ≤ n
  ·obtain ⟨pre, seg, post, hd, hpre, hseg, hnext⟩ := HP.out.next (by rw [HL.out]; exact hb)
   have hc := INS.out a (a + 20) d wr pre seg post HN.out S1.out hd hpre (by omega)
   have HC2 := aside hc
   have HX := aside hnext
   clear hc hnext hd hseg hpre
   go_wp2_with (go_at_fn 175; refine HC2.out.mono ?_; rintro e1 w1 ⟨rfl, d1, hd1, hd2, hd3⟩)
   have Q1 := aside (HX.out d1 hd1)
   have Q2 := aside hd2
   have Q3 := aside hd3
   clear hd1 hd2 hd3
   go_roundg (n - (a + 20))
   case measure => have := HK.out; omega
   case rel => exact ⟨a + 20, d1, by go_num, by go_num, hb, rfl, Q2, Q3, Q1⟩
  ·obtain ⟨pre, seg, hd, hpre, hseg, hnext⟩ := HP.out.last (by rw [HL.out]; exact hb)
   have hc := INS.out a n d wr pre seg [] HN.out S1.out hd hpre (by have := HL.out; omega)
   have HC2 := aside hc
   have HX := aside hnext
   clear hc hnext hd hseg hpre
   go_wp2_with (go_at_fn 175; refine HC2.out.mono ?_; rintro e1 w1 ⟨rfl, d1, hd1, hd2, hd3⟩)
   have Q1 : Aside (Blk (ltOf cf) 20 d0.toList d1.toList) := HX.out d1 hd1
   have Q2 := aside hd2
   have Q3 := aside hd3
   clear hd1 hd2 hd3 HX HC2 HP S1 HN HK
   go_loopg [6, 7, 8] (n - 20) (fun kx s6 s7 s8 wr2 => ∃ (s : Nat) (d : Array α), s6 = .int .i64 s ∧ 1 ≤ s ∧ s ≤ 2 * n + 20 ∧ Aside (kx = n - s) ∧ Aside (d.size = n) ∧ Aside (SB enc k w0 blk off d wr2) ∧ Aside (Blk (ltOf cf) s d0.toList d.toList))
   case atStart => exact ⟨20, d1, rfl, by omega, by omega, rfl, Q2, Q3, Q1⟩
   case round =>
    clear Q1 Q2 Q3
    obtain ⟨s, d, rfl, hs1, hs2, HK, HN, S1, HB⟩ := hrel
    by_cases hsn : s < n
    ·have hsz' : (s : Int) < (n : Int) := by omega
     obtain ⟨wo, hwo⟩ : ∃ wo : World, wo = wr := ⟨_, rfl⟩
     subst hwo
     have P1 : Aside (Pass (ltOf cf) s d0.toList 0 d) := Pass.start HB.out
     go_wp2_with fail
     go_loopg [7, 8] n (fun kx s7 s8 wr2 => ∃ (a b : Nat) (d : Array α), s7 = .int .i64 a ∧ s8 = .int .i64 b ∧ a ≤ n ∧ b ≤ a + 2 * s ∧ a + 2 * s ≤ b ∧ Aside (kx = n - a) ∧ Aside (d.size = n) ∧ Aside (SB enc k w0 blk off d wr2) ∧ Aside (Pass (ltOf cf) s d0.toList a d))
     case atStart => exact ⟨0, 2 * s, d, rfl, by first | rfl | go_num | (congr 1; omega), Nat.zero_le _, by omega, by omega, rfl, HN, S1, P1⟩
     case round =>
      clear P1 HN S1 HB
      obtain ⟨a, b, d, rfl, rfl, han, hb1, hb2, HK2, HN, S1, HP⟩ := hrel
      obtain ⟨m, em, hm1, hm2⟩ : ∃ m : Nat, (a : Int) + (s : Int) = (m : Int) ∧ m ≤ a + s ∧ a + s ≤ m := ⟨a + s, by omega, by omega, by omega⟩
      obtain ⟨b2, eb2, hb3, hb4⟩ : ∃ b2 : Nat, (b : Int) + 2 * (s : Int) = (b2 : Int) ∧ b2 ≤ b + 2 * s ∧ b + 2 * s ≤ b2 := ⟨b + 2 * s, by omega, by omega, by omega⟩
      by_cases hb : b ≤ n
      ·obtain ⟨pre, U, V, post, hT, hnext⟩ := HP.out.next HO.out (by rw [HL.out]; omega)
       rw [show a + s = m by omega, show a + 2 * s = b by omega] at hT
       rw [show a + 2 * s = b by omega] at hnext
       have hc := SYM.out a m b d wr pre U V post HN.out (by omega) (by omega) hb S1.out hT
       have HC2 := aside hc
       have HX := aside hnext
       clear hc hnext hT
       go_wp2_with (go_at_fn 176; refine HC2.out.mono ?_; rintro e1 w1 ⟨rfl, d1, hd1, hd2, hd3⟩)
       have Q1 := aside (HX.out d1 hd1)
       have Q2 := aside hd2
       have Q3 := aside hd3
       clear hd1 hd2 hd3
       go_roundg (n - b)
       case measure => have := HK2.out; omega
       case rel => exact ⟨b, b2, d1, rfl, rfl, hb, by omega, by omega, rfl, Q2, Q3, Q1⟩
      ·by_cases hm : m < n
       ·obtain ⟨pre, U, V, hT, hnext⟩ := HP.out.last HO.out (by rw [HL.out]; omega) (by rw [HL.out]; omega)
        rw [HL.out, show a + s = m by omega] at hT
        have hc := SYM.out a m n d wr pre U V [] HN.out (by omega) hm (Nat.le_refl _) S1.out hT
        have HC2 := aside hc
        have HX := aside hnext
        clear hc hnext hT
        go_wp2_with (go_at_fn 176; refine HC2.out.mono ?_; rintro e1 w1 ⟨rfl, d1, hd1, hd2, hd3⟩)
        have Q1 := aside (HX.out d1 hd1)
        have Q2 := aside hd2
        have Q3 := aside hd3
        clear hd1 hd2 hd3
        go_roundg (n - 2 * s)
        case measure => have := HK.out; omega
        case rel => exact ⟨2 * s, d1, by first | go_num | (congr 1; omega), by omega, by omega, rfl, Q2, Q3, Q1⟩
       ·have Q1 := aside (HP.out.none (by rw [HL.out]; omega) (by rw [HL.out]; omega))
        go_wp2_with fail
        go_roundg (n - 2 * s)
        case measure => have := HK.out; omega
        case rel => exact ⟨2 * s, d, by first | go_num | (congr 1; omega), by omega, by omega, rfl, HN, S1, Q1⟩
    ·go_wp2_with fail
     go_end0
     exact ⟨rfl, d, HB.out.whole (by rw [HL.out]; omega), HN.out, S1.out⟩
open Go.Proofs.YtcmiehddjgfjaaaGreatW.PrintWords Go.Proofs.YtcmiehddjgfjaaaGreatW.PrintLast Go.Proofs.YtcmiehddjgfjaaaGreatW.PrintMore
theorem lays : StLays Tryz.prog where
 mixed := by kernel_rfl
 f30 := Tryz.func166
 f33 := Tryz.func175
 f34 := Tryz.func176
 f36 := Tryz.func180
 f37 := Tryz.func183
 e33 := enters_of Tryz.func175 (by kernel_rfl) rfl
 e34 := enters_of Tryz.func176 (by kernel_rfl) rfl
 e36 := enters_of Tryz.func180 (by kernel_rfl) rfl
 e37 := enters_of Tryz.func183 (by kernel_rfl) rfl
 t3 := Tryz.underlying3
 a3 := Tryz.isAgg3
 z3 := Tryz.sizeOf3
 v3 := Tryz.zeroValue3
 t4 := Tryz.underlying4
 a4 := Tryz.isAgg4
 z4 := Tryz.sizeOf4
 v4 := Tryz.zeroValue4
 t53 := Tryz.underlying141
 a53 := Tryz.isAgg141
 z53 := Tryz.sizeOf141
 t22 := Tryz.underlying35
 a22 := Tryz.isAgg35
 z22 := Tryz.sizeOf35
 t45 := Tryz.underlying115
 a45 := Tryz.isAgg115
 z45 := Tryz.sizeOf115
theorem ins_none (A : Option Addr) (c g : Nat) (cb : Array Value) (w : World) :
  Calls Tryz.prog 175 #[.slice A 0 c, .int .i64 0, .int .i64 0, .func (.func g) #[] cb] w fun e w' => e = .returned (.tuple #[]) ∧ w' = w := by
 go_enter Tryz.func175, Tryz.ntmps175
 go_wp2_with fail
 go_loopg [8, 9] 0 (fun kq v8 v9 w' => v8 = .int .i64 1 ∧ w' = w)
 case atStart => exact ⟨rfl, rfl⟩
 case round =>
  obtain ⟨rfl, rfl⟩ := hrel
  go_wp2
  go_end0; exact ⟨rfl, rfl⟩
theorem stable_none (A : Option Addr) (c g : Nat) (cb : Array Value) (w : World) :
  Calls Tryz.prog 166 #[.slice A 0 c, .int .i64 0, .func (.func g) #[] cb] w fun e w' => e = .returned (.tuple #[]) ∧ w' = w := by
 go_enter Tryz.func166, Tryz.ntmps166
 go_wp2_with fail
 go_loopg [7, 8] 0 (fun kq v7 v8 w' => v7 = .int .i64 0 ∧ v8 = .int .i64 20 ∧ w' = w)
 case atStart => exact ⟨rfl, rfl, rfl⟩
 case round =>
  obtain ⟨rfl, rfl, rfl⟩ := hrel
  go_wp2_with fail
  refine (ins_none A c g cb wr).mono ?_
  rintro e w' ⟨rfl, rfl⟩
  go_wp2_with fail
  go_loopg [6, 7, 8, 9] 0 (fun kq v6 v7 v8 v9 w1 => v6 = .int .i64 20 ∧ w1 = w')
  case atStart => exact ⟨rfl, rfl⟩
  case round =>
   obtain ⟨rfl, rfl⟩ := hrel
   go_wp2
   go_end0; exact ⟨rfl, rfl⟩
/-- 'cmp' tells the order of two elements, in whatever world in which they can be read. -/
def CmpTells {α : Type} (d : Kd α) (g : Nat) (cb : Array Value) (cmp : α → α → Int) : Prop :=
 ∀ (W : World) (base : Nat) (ok : Nat → Prop) (x y : α) (cs ds : List Value), d.M W base ok x cs → d.M W base ok y ds →
  Calls Tryz.prog g (#[.agg cs.toArray, .agg ds.toArray] ++ cb) W fun e w' => e = .returned (.int .i64 (cmp x y)) ∧ Below W.heap.size W w'
theorem stable_R {α : Type} (d : Kd α) (hz : 0 < d.sz) (zE : ∀ w, (Go.sizeOf 62).run Tryz.prog w = .ok d.sz w) (cmp : α → α → Int) (g : Nat) (cb : Array Value) (eg : ∀ args w, (callFunc g args).run Tryz.prog w = .ok (.enter g args) w)
  (O : Stable.Ord (ltOf cmp)) (hcmp : CmpTells d g cb cmp) {w0 : World} {base : Nat} {ok : Nat → Prop} {v : Value} {xs : List α} (h : Kd.R d 62 w0 base ok v xs) (hl : xs.length < 1152921504606846976) :
  Calls Tryz.prog 166 #[v, .int .i64 xs.length, .func (.func g) #[] cb] w0 fun e w' => e = .returned (.tuple #[]) ∧ Kd.R d 62 w' base ok v (isort (ltOf cmp) xs) ∧ Below base w0 w' := by
 obtain ⟨A, c, rfl⟩ := Kd.R_slice h
 by_cases hx : xs = []
 ·subst hx
  refine (stable_none A c g cb w0).mono ?_
  rintro e w' ⟨rfl, rfl⟩
  exact ⟨rfl, h, Below.refl _ _⟩
 ·obtain ⟨ad, _, he⟩ := Kd.R_slice1 h (List.length_pos_iff.2 hx)
  injection he with he1 _ _
  subst he1
  obtain ⟨blk, rfl⟩ := Kd.R_head h
  obtain ⟨I, d0, hm, hs, hb, R⟩ := row_in h hx hz
  have hC : CmpB Tryz.prog g cb (elc (d := d) (w := w0) (base := base) (ok := ok) (g := blk)) d.sz (fun x y => cmp (elv x) (elv y)) blk 0 xs.length w0 := by
   intro dk W hdk hS x y
   exact hcmp W base _ _ _ _ _ (Kd.M_step x.2 (fun k hk hlt => hS.other hlt (fun e => hk.2 (by rw [e])))) (Kd.M_step y.2 (fun k hk hlt => hS.other hlt (fun e => hk.2 (by rw [e]))))
  have O' : Stable.Ord (ltOf (fun x y : El d w0 base ok blk => cmp (elv x) (elv y))) := ord_map elv O
  refine (stable_w lays d.sz Tryz.isAgg62 zE elc (fun x y => cmp (elv x) (elv y)) g cb eg blk 0 c xs.length d0 w0 R hs hC O' hl).mono ?_
  rintro e w' ⟨rfl, d', hd', hn, hS⟩
  obtain ⟨h1, h2⟩ := row_out h hx hn hS
  have e1 : d'.toList.map elv = isort (ltOf cmp) xs := by
   rw [hd', ← hm]
   exact isort_map elv (ltOf cmp) d0.toList
  rw [e1] at h1
  exact ⟨rfl, h1, h2 base hb⟩
/-- slices.SortStableFunc. -/
theorem sortStable_R {α : Type} (d : Kd α) (hz : 0 < d.sz) (zE : ∀ w, (Go.sizeOf 62).run Tryz.prog w = .ok d.sz w) (cmp : α → α → Int) (g : Nat) (cb : Array Value) (eg : ∀ args w, (callFunc g args).run Tryz.prog w = .ok (.enter g args) w)
  (O : Stable.Ord (ltOf cmp)) (hcmp : CmpTells d g cb cmp) {w0 : World} {base : Nat} {ok : Nat → Prop} {v : Value} {xs : List α} (h : Kd.R d 62 w0 base ok v xs) (hl : xs.length < 1152921504606846976) :
  Calls Tryz.prog 144 #[v, .func (.func g) #[] cb] w0 fun e w' => e = .returned (.tuple #[]) ∧ Kd.R d 62 w' base ok v (isort (ltOf cmp) xs) ∧ Below base w0 w' := by
 have hc := stable_R d hz zE cmp g cb eg O hcmp h hl
 obtain ⟨A, c, rfl⟩ := Kd.R_slice h
 have HC := aside hc
 clear hc h hcmp O eg zE
 go_enter Tryz.func144, Tryz.ntmps144
 go_wp2_with fail
 refine HC.out.mono ?_
 rintro e w' ⟨rfl, h1, h2⟩
 go_wp2
 go_end0
 exact ⟨rfl, h1, h2⟩
end Go.Proofs.YtcmiehddjgfjaaaGreat.St.GSl
namespace Go.Proofs.YtcmiehddjgfjaaaGreat.St
open Go.Proofs Go.Proofs.YtcmiehddjgfjaaaGreat.Stable
section
variable {α : Type} {c : α → α → Int}
theorem merge_perm (lt : α → α → Bool) : ∀ u v : List α, (merge lt u v).Perm (u ++ v)
 | [], v => by rw [merge, List.nil_append]
 | x :: u, [] => by rw [merge, List.append_nil]
 | x :: u, y :: v => by
  rw [merge]
  split
  ·exact ((merge_perm lt (x :: u) v).cons y).trans (List.perm_middle.symm)
  ·exact (merge_perm lt u (y :: v)).cons x
termination_by u v => u.length + v.length
theorem foldl_perm (lt : α → α → Bool) : ∀ l s : List α, (l.foldl (fun s x => merge lt s [x]) s).Perm (s ++ l)
 | [], s => by rw [List.foldl_nil, List.append_nil]
 | x :: l, s => by
  rw [List.foldl_cons]
  refine (foldl_perm lt l _).trans ?_
  have := (merge_perm lt s [x]).append_right l
  rwa [List.append_assoc] at this
theorem isort_perm (lt : α → α → Bool) (l : List α) : (isort lt l).Perm l := foldl_perm lt l []
/-- No two are alike. -/
def Apart (c : α → α → Int) (l : List α) : Prop := l.Pairwise fun a b => c a b ≠ 0
/-- Each is ahead of all behind it. -/
def Strict (c : α → α → Int) (l : List α) : Prop := l.Pairwise fun a b => c a b < 0
theorem Strict.apart {l : List α} (h : Strict c l) : Apart c l := h.imp (fun h => by omega)
theorem Apart.perm (h : Cmp3 c) {l l' : List α} (p : l.Perm l') (ha : Apart c l) : Apart c l' :=
 (p.pairwise_iff (fun {a b} hn e => hn (h.zero.1 e))).1 ha
theorem Strict.sorted {l : List α} (h : Cmp3 c) (hs : Strict c l) : Sorted (ltOf c) l := hs.imp (fun {a b} hl => decide_eq_false (by have := h.flip a b; omega))
theorem sorted_strict {l : List α} (h : Cmp3 c) (hs : Sorted (ltOf c) l) (ha : Apart c l) : Strict c l := by
 refine (hs.and ha).imp (fun {a b} ⟨h1, h2⟩ => ?_)
 have h3 : ¬ c b a < 0 := of_decide_eq_false h1
 have := h.flip b a
 omega
/-- Are two neighbours alike? -/
def adjEq (c : α → α → Int) : List α → Bool
 | x :: y :: l => decide (c x y = 0) || adjEq c (y :: l)
 | _ => false
theorem adj_sorted (h : Cmp3 c) : ∀ {l : List α}, Sorted (ltOf c) l → adjEq c l = false → Strict c l
 | [], _, _ => List.Pairwise.nil
 | [x], _, _ => List.pairwise_singleton _ _
 | x :: y :: l, hs, ha => by
  rw [adjEq, Bool.or_eq_false_iff] at ha
  obtain ⟨h1, h2⟩ := List.pairwise_cons.1 hs
  have ih := adj_sorted h h2 ha.2
  have hxy : c x y < 0 := by
   have a := of_decide_eq_false (h1 y List.mem_cons_self)
   have b := of_decide_eq_false ha.1
   have := h.flip y x
   omega
  refine List.pairwise_cons.2 ⟨fun z hz => ?_, ih⟩
  rcases List.mem_cons.1 hz with rfl | hz
  ·exact hxy
  ·have := (List.pairwise_cons.1 ih).1 z hz
   exact h.lt_tr hxy (by omega)
theorem adj_apart : ∀ {l : List α}, Apart c l → adjEq c l = false
 | [], _ => rfl
 | [x], _ => rfl
 | x :: y :: l, ha => by
  obtain ⟨h1, h2⟩ := List.pairwise_cons.1 ha
  rw [adjEq, adj_apart h2, Bool.or_false]
  exact decide_eq_false (h1 y List.mem_cons_self)
theorem adj_isort (h : Cmp3 c) (l : List α) : adjEq c (isort (ltOf c) l) = false ↔ Apart c l := by
 constructor
 ·intro ha
  exact Apart.perm h (isort_perm _ l) (adj_sorted h (isort_sorted h.ord l) ha).apart
 ·intro ha
  exact adj_apart (Apart.perm h (isort_perm _ l).symm ha)
theorem isort_strict (h : Cmp3 c) {l : List α} (ha : Apart c l) : Strict c (isort (ltOf c) l) := adj_sorted h (isort_sorted h.ord l) ((adj_isort h l).2 ha)
/-- What is sorted stays so. -/
theorem isort_id (h : Cmp3 c) : ∀ {l : List α}, Sorted (ltOf c) l → isort (ltOf c) l = l := by
 intro l
 have : ∀ (l s : List α), Sorted (ltOf c) (s ++ l) → l.foldl (fun s x => merge (ltOf c) s [x]) s = s ++ l := by
  intro l
  induction l with
  | nil => intro s _; simp
  | cons x l ih =>
   intro s hs
   have h1 : merge (ltOf c) s [x] = s ++ [x] := by
    have := merge_one (lt := ltOf c) s [] x (fun e he => (List.pairwise_append.1 hs).2.2 e he x List.mem_cons_self) (fun e he => by cases he)
    rwa [List.append_nil] at this
   rw [List.foldl_cons, h1, ih (s ++ [x]) (by rwa [List.append_assoc]), List.append_assoc]; rfl
 intro hs
 exact this l [] hs
/-- Strictly sorted lists of the same members are the same. -/
theorem strict_eq (h : Cmp3 c) : ∀ {l l' : List α}, Strict c l → Strict c l' → l.Perm l' → l = l'
 | [], l', _, _, p => (List.Perm.nil_eq p)
 | x :: l, [], _, _, p => by have := p.length_eq; simp at this
 | x :: l, y :: l', hs, hs', p => by
  obtain ⟨h1, h2⟩ := List.pairwise_cons.1 hs
  obtain ⟨h1', h2'⟩ := List.pairwise_cons.1 hs'
  have hx : x ∈ y :: l' := p.mem_iff.1 List.mem_cons_self
  have hy : y ∈ x :: l := p.mem_iff.2 List.mem_cons_self
  have hxy : x = y := by
   rcases List.mem_cons.1 hx with e | hx
   ·exact e
   ·rcases List.mem_cons.1 hy with e | hy
    ·exact e.symm
    ·have a := h1 y hy
     have b := h1' x hx
     have := h.flip x y
     omega
  subst hxy
  rw [strict_eq h h2 h2' (List.Perm.cons_inv p)]
theorem isort_any_order (h : Cmp3 c) {l l' : List α} (p : l.Perm l') (ha : Apart c l) : isort (ltOf c) l = isort (ltOf c) l' :=
 strict_eq h (isort_strict h ha) (isort_strict h (Apart.perm h p ha)) ((isort_perm _ l).trans (p.trans (isort_perm _ l').symm))
/-- One more in a sorted list; none where it is there already. -/
def ins (c : α → α → Int) : List α → α → Option (List α)
 | [], x => some [x]
 | y :: s, x => if c y x < 0 then (ins c s x).map (y :: ·) else if c y x = 0 then none else some (x :: y :: s)
def insAll (c : α → α → Int) : List α → List α → Option (List α)
 | out, [] => some out
 | out, x :: l => (ins c out x).bind fun o => insAll c o l
theorem ins_some (h : Cmp3 c) : ∀ {s : List α} {x : α}, Strict c s → (∀ y ∈ s, c y x ≠ 0) → ins c s x = some (merge (ltOf c) s [x])
 | [], x, _, _ => by rw [ins, merge]
 | y :: s, x, hs, hn => by
  obtain ⟨h1, h2⟩ := List.pairwise_cons.1 hs
  have h0 := hn y List.mem_cons_self
  have hf := h.flip x y
  have hf' := h.flip y x
  rw [ins, merge]
  by_cases e : c y x < 0
  ·have e' : ¬ ltOf c x y = true := by show ¬ decide (c x y < 0) = true; rw [decide_eq_false (by omega)]; simp
   rw [if_pos e, if_neg e', ins_some h h2 (fun z hz => hn z (List.mem_cons_of_mem _ hz))]; rfl
  ·have e' : ltOf c x y = true := decide_eq_true (by omega)
   rw [if_neg e, if_neg h0, if_pos e', merge_nil]
theorem ins_none (h : Cmp3 c) : ∀ {s : List α} {x : α}, Strict c s → (∃ y ∈ s, c y x = 0) → ins c s x = none
 | [], x, _, hn => by obtain ⟨y, hy, _⟩ := hn; cases hy
 | y :: s, x, hs, hn => by
  obtain ⟨h1, h2⟩ := List.pairwise_cons.1 hs
  obtain ⟨z, hz, e⟩ := hn
  rw [ins]
  rcases List.mem_cons.1 hz with rfl | hz
  ·rw [if_neg (by omega), if_pos e]
  ·have hyz := h1 z hz
   have hyx : c y x < 0 := h.lt_tr hyz (by omega)
   rw [if_pos hyx, ins_none h h2 ⟨z, hz, e⟩]; rfl
theorem ins_strict (h : Cmp3 c) {s : List α} {x : α} (hs : Strict c s) (hn : ∀ y ∈ s, c y x ≠ 0) : Strict c (merge (ltOf c) s [x]) := by
 have ha : Apart c (s ++ [x]) := List.pairwise_append.2 ⟨hs.apart, List.pairwise_singleton _ _, fun a ha b hb => by rw [List.mem_singleton] at hb; subst hb; exact hn a ha⟩
 exact sorted_strict h (merge_sorted h.ord (hs.sorted h) (List.pairwise_singleton _ _)) (Apart.perm h (merge_perm _ s [x]).symm ha)
theorem insAll_is (h : Cmp3 c) : ∀ {l s : List α}, Strict c s → (Apart c (s ++ l) → insAll c s l = some (l.foldl (fun s x => merge (ltOf c) s [x]) s)) ∧ (¬ Apart c (s ++ l) → insAll c s l = none)
 | [], s, hs => ⟨fun _ => rfl, fun hn => by rw [List.append_nil] at hn; exact absurd hs.apart hn⟩
 | x :: l, s, hs => by
  by_cases hd : ∃ y ∈ s, c y x = 0
  ·have e := ins_none h hs hd
   obtain ⟨y, hy, hyx⟩ := hd
   refine ⟨fun ha => ?_, fun _ => by rw [insAll, e]; rfl⟩
   exact absurd hyx ((List.pairwise_append.1 ha).2.2 y hy x List.mem_cons_self)
  ·have hn : ∀ y ∈ s, c y x ≠ 0 := fun y hy e => hd ⟨y, hy, e⟩
   have ih := insAll_is h (l := l) (ins_strict h hs hn)
   have hp : Apart c (merge (ltOf c) s [x] ++ l) ↔ Apart c (s ++ x :: l) := by
    have p : (merge (ltOf c) s [x] ++ l).Perm (s ++ x :: l) := by
     have := (merge_perm (ltOf c) s [x]).append_right l
     rwa [List.append_assoc] at this
    exact ⟨Apart.perm h p, Apart.perm h p.symm⟩
   rw [insAll, ins_some h hs hn, Option.bind_some, List.foldl_cons]
   exact ⟨fun ha => ih.1 (hp.2 ha), fun ha => ih.2 (fun h' => ha (hp.1 h'))⟩
/-- The insertion's answer is the sort's. -/
theorem insAll_sort (h : Cmp3 c) (l : List α) : insAll c [] l = if adjEq c (isort (ltOf c) l) = true then none else some (isort (ltOf c) l) := by
 have hi := insAll_is h (l := l) (s := []) List.Pairwise.nil
 rw [List.nil_append] at hi
 by_cases ha : Apart c l
 ·rw [if_neg (by rw [(adj_isort h l).2 ha]; simp), hi.1 ha]; rfl
 ·rw [if_pos (by
   cases hq : adjEq c (isort (ltOf c) l) with
   | true => rfl
   | false => exact absurd ((adj_isort h l).1 hq) ha), hi.2 ha]
end
end Go.Proofs.YtcmiehddjgfjaaaGreat.St
namespace Go.Proofs.YtcmiehddjgfjaaaGreat.A
open Go.RowKit Go.Proofs.YtcmiehddjgfjaaaGreatW.PrintWords Go.Proofs.YtcmiehddjgfjaaaGreatW.PrintLast Go.Proofs.YtcmiehddjgfjaaaGreatW.PrintMore Go.Proofs.YtcmiehddjgfjaaaGreat.St Go.Proofs.YtcmiehddjgfjaaaGreat.Stable
def cmpN (x y : Lab) : Int := cmpS x.f0 y.f0
theorem cmpN3 : Cmp3 cmpN := cmpS3.map S62.f0
/-- labels.Make. -/
def vMake (l : List Lab) : List Lab × Int := if l.any (fun x => !isLab x) = true then ([], 90) else if adjEq cmpN (isort (ltOf cmpN) l) = true then ([], 8) else if 16 < l.length then ([], 6) else (isort (ltOf cmpN) l, 0)
theorem setGo_some : ∀ (l : List Lab) (q : ByteArray), setGo (some q) l = true ↔ (∀ x ∈ l, isLab x = true) ∧ Strict cmpN l ∧ (∀ x ∈ l, cmpS q x.f0 < 0)
 | [], q => by
  rw [setGo]
  exact ⟨fun _ => ⟨fun x h => (by cases h), List.Pairwise.nil, fun x h => (by cases h)⟩, fun _ => rfl⟩
 | x :: l, q => by
  rw [setGo, Bool.and_eq_true, Bool.and_eq_true, setGo_some l x.f0, less_cmpS, decide_eq_true_iff]
  constructor
  ·rintro ⟨h1, h2, h3, h4, h5⟩
   refine ⟨fun y hy => ?_, List.pairwise_cons.2 ⟨fun y hy => h5 y hy, h4⟩, fun y hy => ?_⟩
   ·rcases List.mem_cons.1 hy with rfl | hy
    ·exact h1
    ·exact h3 y hy
   ·rcases List.mem_cons.1 hy with rfl | hy
    ·exact h2
    ·exact cmpS3.lt_tr h2 (by have := h5 y hy; omega)
  ·rintro ⟨h1, h2, h3⟩
   obtain ⟨h4, h5⟩ := List.pairwise_cons.1 h2
   exact ⟨h1 x List.mem_cons_self, h3 x List.mem_cons_self, fun y hy => h1 y (List.mem_cons_of_mem _ hy), h5, fun y hy => h4 y hy⟩
theorem isSet_iff (l : List Lab) : isSet l = true ↔ (∀ x ∈ l, isLab x = true) ∧ Strict cmpN l ∧ l.length ≤ 16 := by
 unfold isSet
 rw [Bool.and_eq_true, decide_eq_true_iff]
 have : setGo none l = true ↔ (∀ x ∈ l, isLab x = true) ∧ Strict cmpN l := by
  cases l with
  | nil =>
   rw [setGo]
   exact ⟨fun _ => ⟨fun x h => (by cases h), List.Pairwise.nil⟩, fun _ => rfl⟩
  | cons x l =>
   rw [setGo, Bool.and_eq_true, setGo_some l x.f0]
   constructor
   ·rintro ⟨h1, h3, h4, h5⟩
    refine ⟨fun y hy => ?_, List.pairwise_cons.2 ⟨fun y hy => h5 y hy, h4⟩⟩
    rcases List.mem_cons.1 hy with rfl | hy
    ·exact h1
    ·exact h3 y hy
   ·rintro ⟨h1, h2⟩
    obtain ⟨h4, h5⟩ := List.pairwise_cons.1 h2
    exact ⟨h1 x List.mem_cons_self, fun y hy => h1 y (List.mem_cons_of_mem _ hy), h5, fun y hy => h4 y hy⟩
 rw [this]
 exact ⟨fun ⟨⟨a, b⟩, c⟩ => ⟨a, b, c⟩, fun ⟨a, b, c⟩ => ⟨⟨a, b⟩, c⟩⟩
theorem vMake_set {l : List Lab} (h : isSet l = true) : vMake l = (l, 0) := by
 obtain ⟨h1, h2, h3⟩ := (isSet_iff l).1 h
 have e := isort_id cmpN3 (h2.sorted cmpN3)
 unfold vMake
 rw [if_neg (by
  intro ha
  obtain ⟨x, hx, hb⟩ := List.any_eq_true.1 ha
  rw [h1 x hx] at hb
  cases hb), e, if_neg (by rw [adj_apart h2.apart]; simp), if_neg (by omega)]
/-- The code's 'isSet'. -/
theorem make_set (l : List Lab) : isSet l = true ↔ vMake l = (l, 0) := by
 refine ⟨vMake_set, fun h => ?_⟩
 unfold vMake at h
 split at h
 ·injection h with _ h; cases h
 ·rename_i h1
  split at h
  ·injection h with _ h; cases h
  ·rename_i h2
   split at h
   ·injection h with _ h; cases h
   ·rename_i h3
    injection h with h4 _
    refine (isSet_iff l).2 ⟨fun x hx => ?_, ?_, by omega⟩
    ·cases hb : isLab x with
     | true => rfl
     | false => exact absurd (List.any_eq_true.2 ⟨x, hx, by rw [hb]; rfl⟩) h1
    ·have hs := isort_sorted cmpN3.ord l
     rw [h4] at hs h2
     exact adj_sorted cmpN3 hs (by simpa using h2)
theorem lab_ext {x y : Lab} (h0 : x.f0 = y.f0) (h1 : x.f1 = y.f1) : x = y := by
 obtain ⟨a, b⟩ := x
 obtain ⟨c, d⟩ := y
 simp only at h0 h1
 subst h0; subst h1; rfl
theorem strict_names {l : List Lab} (h : Strict cmpN l) {x y : Lab} (hx : x ∈ l) (hy : y ∈ l) (hn : x.f0 = y.f0) : x = y := by
 induction l with
 | nil => cases hx
 | cons z l ih =>
  obtain ⟨h1, h2⟩ := List.pairwise_cons.1 h
  rcases List.mem_cons.1 hx with e | hx'
  ·rcases List.mem_cons.1 hy with e' | hy'
   ·rw [e, e']
   ·have := h1 y hy'
    rw [← e, show cmpN x y = 0 from (cmpS_eq _ _).2 hn] at this
    omega
  ·rcases List.mem_cons.1 hy with e' | hy'
   ·have := h1 x hx'
    rw [← e', show cmpN y x = 0 from (cmpS_eq _ _).2 hn.symm] at this
    omega
   ·exact ih h2 hx' hy'
theorem getL_mem {l : List Lab} : ∀ {n : ByteArray}, (∃ x ∈ l, x.f0 = n ∧ getL l n = x.f1) ∨ ((∀ x ∈ l, x.f0 ≠ n) ∧ getL l n = ⟨#[]⟩) := by
 induction l with
 | nil => intro n; exact .inr ⟨fun x h => (by cases h), rfl⟩
 | cons y l ih =>
  intro n
  rw [getL]
  by_cases h : y.f0.toList = n.toList
  ·rw [if_pos h]
   exact .inl ⟨y, List.mem_cons_self, (toList_eq _ _).1 h, rfl⟩
  ·rw [if_neg h]
   rcases ih (n := n) with ⟨x, hx, h1, h2⟩ | ⟨h1, h2⟩
   ·exact .inl ⟨x, List.mem_cons_of_mem _ hx, h1, h2⟩
   ·refine .inr ⟨fun x hx => ?_, h2⟩
    rcases List.mem_cons.1 hx with rfl | hx
    ·exact fun e => h ((toList_eq _ _).2 e)
    ·exact h1 x hx
theorem lab_some {x : Lab} (h : isLab x = true) : x.f1 ≠ ⟨#[]⟩ := by
 intro e
 unfold isLab at h
 rw [e] at h
 simp at h
 have := h.2.1
 exact absurd this (by decide)
/-- In a set: a label is there just if its name has its value. -/
theorem mem_get {l : List Lab} (hl : isSet l = true) {x : Lab} (hx : isLab x = true) : x ∈ l ↔ getL l x.f0 = x.f1 := by
 obtain ⟨h1, h2, h3⟩ := (isSet_iff l).1 hl
 rcases getL_mem (l := l) (n := x.f0) with ⟨y, hy, e1, e2⟩ | ⟨e1, e2⟩
 ·rw [e2]
  constructor
  ·intro h
   rw [strict_names h2 hy h e1]
  ·intro h
   rw [← lab_ext e1 h]; exact hy
 ·rw [e2]
  constructor
  ·intro h; exact absurd rfl (e1 x h)
  ·intro h; exact absurd h.symm (lab_some hx)
/-- The code's 'within'. -/
def Within (a b : List Lab) : Prop := ∀ x ∈ a, x ∈ b
theorem within_iff {a b : List Lab} (ha : isSet a = true) (hb : isSet b = true) : inR a b = true ↔ Within a b := by
 unfold inR Within
 rw [List.all_eq_true]
 constructor
 ·intro h x hx
  exact (mem_get hb ((isSet_iff a).1 ha |>.1 x hx)).2 ((toList_eq _ _).1 (of_decide_eq_true (h x hx)))
 ·intro h x hx
  exact decide_eq_true ((toList_eq _ _).2 ((mem_get hb ((isSet_iff a).1 ha |>.1 x hx)).1 (h x hx)))
/-- What labels.Join collects: those of b that are new in a; none where one is told otherwise. -/
def joinGo (a : List Lab) : List Lab → List Lab → Option (List Lab)
 | all, [] => some all
 | all, x :: b => if getL a x.f0 = ⟨#[]⟩ then joinGo a (all ++ [x]) b else if getL a x.f0 = x.f1 then joinGo a all b else none
def vJoinL (a b : List Lab) : List Lab × Bool := match joinGo a a b with
 | none => ([], false)
 | some all => ((vMake all).1, (vMake all).2 == 0)
theorem joinGo_within {a b : List Lab} (ha : isSet a = true) (hb : isSet b = true) (h : Within b a) : ∀ (c all : List Lab), (∀ x ∈ c, x ∈ b) → joinGo a all c = some all
 | [], all, _ => rfl
 | x :: c, all, hc => by
  have hx := hc x List.mem_cons_self
  have hl := (isSet_iff b).1 hb |>.1 x hx
  have e := (mem_get ha hl).1 (h x hx)
  rw [joinGo, if_neg (by rw [e]; exact lab_some hl), if_pos e]
  exact joinGo_within ha hb h c all (fun y hy => hc y (List.mem_cons_of_mem _ hy))
theorem join_in {a b : List Lab} (ha : isSet a = true) (hb : isSet b = true) (h : Within b a) : vJoinL a b = (a, true) := by
 unfold vJoinL
 rw [joinGo_within ha hb h b a (fun x hx => hx)]
 show ((vMake a).1, (vMake a).2 == 0) = (a, true)
 rw [vMake_set ha]; rfl
theorem joinGo_over {a b : List Lab} (ha : isSet a = true) (hb : isSet b = true) (h : Within a b) : ∀ (c all : List Lab), (∀ x ∈ c, x ∈ b) → joinGo a all c = some (all ++ c.filter (fun x => !a.any (fun y => decide (y.f0.toList = x.f0.toList))))
 | [], all, _ => by rw [joinGo, List.filter_nil, List.append_nil]
 | x :: c, all, hc => by
  have hx := hc x List.mem_cons_self
  have hl := (isSet_iff b).1 hb |>.1 x hx
  have ih := fun all => joinGo_over ha hb h c all (fun y hy => hc y (List.mem_cons_of_mem _ hy))
  rw [joinGo]
  rcases getL_mem (l := a) (n := x.f0) with ⟨y, hy, e1, e2⟩ | ⟨e1, e2⟩
  ·have hyx : y = x := strict_names ((isSet_iff b).1 hb).2.1 (h y hy) hx e1
   subst hyx
   have hany : a.any (fun z => decide (z.f0.toList = y.f0.toList)) = true := List.any_eq_true.2 ⟨y, hy, by simp⟩
   rw [if_neg (by rw [e2]; exact lab_some hl), if_pos e2, ih, List.filter_cons_of_neg (by rw [hany]; simp)]
  ·have hany : a.any (fun z => decide (z.f0.toList = x.f0.toList)) = false := by
    rw [List.any_eq_false]
    intro y hy
    rw [decide_eq_true_iff]
    exact fun e => e1 y hy ((toList_eq _ _).1 e)
   rw [if_pos e2, ih, List.filter_cons_of_pos (by rw [hany]; rfl), List.append_assoc]; rfl
theorem over_perm {a b : List Lab} (ha : isSet a = true) (hb : isSet b = true) (h : Within a b) : (a ++ b.filter (fun x => !a.any (fun y => decide (y.f0.toList = x.f0.toList)))).Perm b := by
 obtain ⟨a1, a2, a3⟩ := (isSet_iff a).1 ha
 obtain ⟨b1, b2, b3⟩ := (isSet_iff b).1 hb
 have nd : ∀ {l : List Lab}, Strict cmpN l → l.Nodup := fun hs => hs.imp (fun {x y} hxy e => by
  subst e
  have : cmpN x x = 0 := (cmpS_eq _ _).2 rfl
  omega)
 have key : ∀ x, x ∈ b.filter (fun x => !a.any (fun y => decide (y.f0.toList = x.f0.toList))) ↔ x ∈ b ∧ x ∉ a := by
  intro x
  rw [List.mem_filter]
  constructor
  ·rintro ⟨hx, hn⟩
   refine ⟨hx, fun hxa => ?_⟩
   rw [List.any_eq_true.2 ⟨x, hxa, by simp⟩] at hn
   cases hn
  ·rintro ⟨hx, hn⟩
   refine ⟨hx, ?_⟩
   rw [Bool.not_eq_true', List.any_eq_false]
   intro y hy
   rw [decide_eq_true_iff]
   intro e
   have := strict_names b2 (h y hy) hx ((toList_eq _ _).1 e)
   subst this
   exact hn hy
 refine (List.perm_ext_iff_of_nodup ?_ (nd b2)).2 (fun x => ?_)
 ·refine List.nodup_append.2 ⟨nd a2, (nd b2).filter _, fun x hx y hy e => ?_⟩
  subst e
  exact ((key x).1 hy).2 hx
 ·rw [List.mem_append, key]
  constructor
  ·rintro (hx | ⟨hx, _⟩)
   ·exact h x hx
   ·exact hx
  ·intro hx
   by_cases hxa : x ∈ a
   ·exact .inl hxa
   ·exact .inr ⟨hx, hxa⟩
theorem join_over {a b : List Lab} (ha : isSet a = true) (hb : isSet b = true) (h : Within a b) : vJoinL a b = (b, true) := by
 have p := over_perm ha hb h
 obtain ⟨b1, b2, b3⟩ := (isSet_iff b).1 hb
 unfold vJoinL
 rw [joinGo_over ha hb h b a (fun x hx => hx)]
 have e : vMake (a ++ b.filter (fun x => !a.any (fun y => decide (y.f0.toList = x.f0.toList)))) = (b, 0) := by
  unfold vMake
  have hap : Apart cmpN (a ++ b.filter (fun x => !a.any (fun y => decide (y.f0.toList = x.f0.toList)))) := Apart.perm cmpN3 p.symm b2.apart
  rw [if_neg (by
   intro hy
   obtain ⟨x, hx, hn⟩ := List.any_eq_true.1 hy
   rw [b1 x (p.mem_iff.1 hx)] at hn
   cases hn), if_neg (by rw [(adj_isort cmpN3 _).2 hap]; simp), if_neg (by rw [p.length_eq]; omega), isort_any_order cmpN3 p hap, isort_id cmpN3 (b2.sorted cmpN3)]
 simp only [e]
 rfl
/-- The longer one of two sets, of which one is within the other. -/
theorem join_longer {a b : List Lab} (ha : isSet a = true) (hb : isSet b = true) (h : Within a b ∨ Within b a) : vJoinL a b = (if a.length < b.length then b else a, true) := by
 rcases h with h | h
 ·rw [join_over ha hb h]
  by_cases hl : a.length < b.length
  ·rw [if_pos hl]
  ·rw [if_neg hl]
   have p := over_perm ha hb h
   have hlen := p.length_eq
   rw [List.length_append] at hlen
   have hf : b.filter (fun x => !a.any (fun y => decide (y.f0.toList = x.f0.toList))) = [] := List.eq_nil_of_length_eq_zero (by omega)
   rw [hf, List.append_nil] at p
   rw [strict_eq cmpN3 ((isSet_iff a).1 ha).2.1 ((isSet_iff b).1 hb).2.1 p]
 ·rw [join_in ha hb h]
  have hlen : ¬ a.length < b.length := by
   have p := (over_perm hb ha h).length_eq
   rw [List.length_append] at p
   omega
  rw [if_neg hlen]
theorem make1_calls (x : Lab) (hm : LabOk x) (w : World) : Calls Tryz.prog 142 #[.agg #[.string x.f0, .string x.f1]] w fun e w' => e = .returned (.bool (!isLab x)) ∧ Below w.heap.size w w' := by
 obtain ⟨k, hk⟩ := (badLab_ev x hm).rounds
 exact lb_Make_1.calls k _ _ _ w hk
theorem cmpN_tells : GSl.CmpTells k62 93 #[] cmpN := by
 intro W base ok x y cs ds hx hy
 obtain rfl := k62_openM hx
 obtain rfl := k62_openM hy
 exact byName_calls x y W
theorem adj_step (s : List Lab) (i : Nat) (h1 : 1 ≤ i) (hi : i < s.length) : adjEq cmpN (s.drop (i - 1)) = (decide ((s[i - 1]'(by omega)).f0 = s[i].f0) || adjEq cmpN (s.drop i)) := by
 obtain ⟨j, rfl⟩ : ∃ j, i = j + 1 := ⟨i - 1, by omega⟩
 simp only [Nat.add_sub_cancel]
 rw [List.drop_eq_getElem_cons (show j < s.length by omega), List.drop_eq_getElem_cons hi, adjEq]
 congr 1
 exact decide_eq_decide.2 (cmpS_eq _ _)
theorem adj_short : ∀ {s : List Lab}, s.length ≤ 1 → adjEq cmpN s = false
 | [], _ => rfl
 | [x], _ => rfl
 | x :: y :: s, h => by simp at h
theorem lmake_calls (A : Option Addr) (c : Nat) (l : List Lab) (hl : LabsOk l) (hb : l.length * 32 ≤ 140737488355328) (w : World) (hr : Kd.C k62 w A l.length l) :
  Calls Tryz.prog 86 #[.slice A l.length c] w fun e w' => ∃ v : Value, e = .returned (.tuple #[v, .int .i64 (vMake l).2]) ∧ Kd.R k62 62 w' w.heap.size (fun _ => True) v (vMake l).1 ∧ Below w.heap.size w w' := by
 have eg : ∀ args w, (callFunc 142 args).run Tryz.prog w = .ok (.enter 142 args) w := enters_of Tryz.func142 (by kernel_rfl) rfl
 have hc := containsLabel (fun x => !isLab x) 142 #[] eg A c l w hr (fun x hx w1 cs _ hK => by
  obtain rfl := k62_open hK
  exact make1_calls x (hl.2 x hx) w1)
 have hv : vMake l = if l.any (fun x => !isLab x) = true then ([], 90) else if adjEq cmpN (isort (ltOf cmpN) l) = true then ([], 8) else if 16 < (isort (ltOf cmpN) l).length then ([], 6) else (isort (ltOf cmpN) l, 0) := by unfold vMake; rw [isort_length]
 rw [hv]
 clear hv eg
 generalize l.any (fun x => !isLab x) = bad at hc ⊢
 generalize hs : isort (ltOf cmpN) l = s
 generalize hrr : (if bad = true then (([] : List Lab), (90 : Int)) else if adjEq cmpN s = true then ([], 8) else if 16 < s.length then ([], 6) else (s, 0)) = r
 have HRR := Sd.mk hrr
 have HN := Sd.mk (show s.length = l.length by rw [← hs]; exact isort_length l)
 have HS := Sd.mk hs
 clear hrr hs
 have HC := Sd.mk hc
 have HR := Sd.mk hr
 have HL := Sd.mk hb
 have HM := Sd.mk hl
 clear hc hr hb hl
 cases bad with
 | true =>
  go_enter Tryz.func86, Tryz.ntmps86
  go_wp2_with (go_at_call 102; refine HC.out.mono ?_; rintro e w1 ⟨rfl, hb1⟩)
  go_ret2
  have er : r = ([], 90) := by rw [← HRR.out]; simp
  exact ⟨.slice none 0 0, by rw [er]; rfl, by rw [er]; exact Kd.R_nil _ _ _ _ _, hb1⟩
 | false =>
  have mixed : Tryz.prog.follows .mixedOrders = true := by kernel_rfl
  go_enter Tryz.func86, Tryz.ntmps86
  go_wp2_with (first
   | (go_at_call 102; refine HC.out.mono ?_; rintro e w1 ⟨rfl, hb1⟩; have HB := Sd.mk hb1; clear hb1)
   | (go_at_call 105; refine (cloneLabel A c l _ (Kd.C_below HR.out HB.out) HL.out).mono ?_; rintro e w2 ⟨v, rfl, hv, hb2⟩; have HV := Sd.mk (Kd.R_lower hv HB.out.size); have HB2 := Sd.mk (HB.out.trans (hb2.mono HB.out.size)); clear hv hb2))
  refine (GSl.sortStable_R k62 (by decide) Tryz.sizeOf62 cmpN 93 #[] (enters_of Tryz.func93 (by kernel_rfl) rfl) cmpN3.ord cmpN_tells HV.out (by have := HL.out; omega)).mono ?_
  rintro e w3 ⟨rfl, hv3, hb3⟩
  rw [HS.out] at hv3
  have HV3 := Sd.mk hv3
  have HB3 := Sd.mk (HB2.out.trans hb3)
  clear hv3 hb3
  go_wp2
  obtain ⟨A3, c3, rfl, hc3, hC3⟩ := Kd.R_reads HV3.out
  clear hC3
  have hn := HM.out.1
  have hn2 : s.length < 4611686018427387904 := by rw [HN.out]; exact hn
  clear hn
  go_loopw [4] (fun v4 wr => ∃ i : Nat, 1 ≤ i ∧ (i ≤ s.length ∨ i = 1) ∧ v4 = .int .i64 i ∧ Sd (adjEq cmpN s = adjEq cmpN (s.drop (i - 1))) ∧ Sd (Kd.R k62 62 wr w.heap.size (fun _ => True) (.slice A3 s.length c3) s) ∧ Sd (Below w.heap.size w wr)) (fun v4 _ => s.length + 1 - (intOf v4).toNat)
  case atStart => exact ⟨1, Nat.le_refl _, .inr rfl, rfl, ⟨rfl⟩, HV3, HB3⟩
  case round =>
   clear HV3 HB3 HB HB2 HV HC
   obtain ⟨i, h1, hi, rfl, HT, HO, HW⟩ := hrel
   by_cases hlt : i < s.length
   ·have hlt' : (i : Int) < (s.length : Int) := by omega
    obtain ⟨j, hj⟩ : ∃ j, i - 1 = j := ⟨_, rfl⟩
    have hjl : j < s.length := by omega
    have bj : (j : Int) < (s.length : Int) := by omega
    have hwp : IntKind.i64.wrap ((i : Int) - 1) = (j : Int) := by rw [IntKind.wrap_i64]; omega
    have hC := (Kd.R_reads' HO.out).2.2
    obtain ⟨ad, rfl, p0, p1⟩ := at_T62 hC (i : Int) (by omega) (by omega)
    obtain ⟨ad2, e2, r0, r1⟩ := at_T62 hC (j : Int) (by omega) (by omega)
    injection e2 with e2
    subst e2
    rw [Int.toNat_natCast, rdL_at hlt] at p0
    rw [Int.toNat_natCast, rdL_at hjl] at r0
    have hst := adj_step s i h1 hlt
    simp only [hj] at hst
    have HX := Sd.mk (show adjEq cmpN s = (decide (s[j].f0 = s[i].f0) || adjEq cmpN (s.drop i)) by rw [HT.out, hj, hst])
    clear hst hC p1 r1 HT
    have HJ := Sd.mk hj
    clear hj
    generalize s[i].f0 = x at p0 HX
    generalize s[j].f0 = y at r0 HX
    have q0 := fun p : Bw wr => p.cell p0
    have t0 := fun p : Bw wr => p.cell r0
    clear p0 r0
    by_cases he : y = x
    ·subst he
     have HZ := Sd.mk (show adjEq cmpN s = true by rw [HX.out, decide_eq_true rfl, Bool.true_or])
     go_wp2_with fail
     refine wp_region_Bw (by assumption) (by kernel_rfl) ?_
     repeat ((with_reducible refine wpQuiet_step (fun K hK => ?_)); go_simp; first | ((with_reducible refine hK _ ?_); clear hK K) | (rw [if_neg (by decide)]; (with_reducible refine hK _ ?_); clear hK K))
     refine wpQuiet_nil ?_
     intro _ hw'
     obtain ⟨p, rfl⟩ := hw'
     have HB2 := Sd.mk (HW.out.trans (p.h.mono HW.out.size))
     go_wp2
     go_ret2
     have er : r = ([], 8) := by rw [← HRR.out]; simp [HZ.out]
     exact ⟨.slice none 0 0, by rw [er]; rfl, by rw [er]; exact Kd.R_nil _ _ _ _ _, HB2.out⟩
    ·have HZ := Sd.mk (show adjEq cmpN s = adjEq cmpN (s.drop (i + 1 - 1)) by rw [HX.out, decide_eq_false he, Bool.false_or, Nat.add_sub_cancel])
     have n2 : (x.toList == y.toList) = false := by rw [beq_eq_false_iff_ne]; exact fun h => he ((toList_eq _ _).1 h).symm
     have n3 : ¬ x.toList = y.toList := fun h => he ((toList_eq _ _).1 h).symm
     have n4 : ¬ x = y := fun h => he h.symm
     clear he HX
     go_wp2_with fail
     refine wp_region_Bw (by assumption) (by kernel_rfl) ?_
     repeat ((with_reducible refine wpQuiet_step (fun K hK => ?_)); go_simp; first | ((with_reducible refine hK _ ?_); clear hK K) | (rw [if_neg (by decide)]; (with_reducible refine hK _ ?_); clear hK K))
     refine wpQuiet_nil ?_
     intro _ hw'
     obtain ⟨p, rfl⟩ := hw'
     have HB2 := Sd.mk (HW.out.trans (p.h.mono HW.out.size))
     have HO2 := Sd.mk (Kd.R_below HO.out p.h)
     go_wp2
     go_roundw
     case rel => exact ⟨i + 1, by omega, .inl (by omega), by go_num, HZ, HO2, HB2⟩
     case measure => simp [intOf]; omega
   ·have n1 : decide ((i : Int) < (s.length : Int)) = false := decide_eq_false (by omega)
    have n2 : decide (i < s.length) = false := decide_eq_false hlt
    have HZ := Sd.mk (HT.out.trans (adj_short (by rw [List.length_drop]; omega)))
    clear hi hlt h1
    by_cases h16 : 16 < s.length
    ·have er0 : r = ([], 6) := by rw [← HRR.out]; simp [HZ.out, h16]
     have ER := Sd.mk er0
     clear er0
     have b1 : decide ((s.length : Int) > 16) = true := decide_eq_true (by omega)
     have b2 : decide (16 < s.length) = true := decide_eq_true h16
     clear h16
     go_wp2
     go_ret2
     have er := ER.out
     exact ⟨.slice none 0 0, by rw [er]; rfl, by rw [er]; exact Kd.R_nil _ _ _ _ _, HW.out⟩
    ·have er0 : r = (s, 0) := by rw [← HRR.out]; simp [HZ.out, h16]
     have ER := Sd.mk er0
     clear er0
     have b1 : decide ((s.length : Int) > 16) = false := decide_eq_false (by omega)
     have b2 : decide (16 < s.length) = false := decide_eq_false h16
     clear h16
     go_wp2
     go_ret2
     have er := ER.out
     exact ⟨.slice A3 s.length c3, by rw [er]; rfl, by rw [er]; exact HO.out, HW.out⟩
attribute [local go_sem high] eqA62
def eqL (a b : List Lab) : Bool := decide (cmpL a b = 0)
theorem eqL_cons (x y : Lab) (a b : List Lab) : eqL (x :: a) (y :: b) = (decide (cmpLab x y = 0) && eqL a b) := by
 unfold eqL
 rw [cmpL]
 by_cases h : cmpLab x y = 0
 ·rw [if_pos h, decide_eq_true h, Bool.true_and]
 ·rw [if_neg h, decide_eq_false h, Bool.false_and]
theorem eqL_len {a b : List Lab} (h : a.length ≠ b.length) : eqL a b = false := by
 unfold eqL
 exact decide_eq_false (fun e => h (by rw [cmpL_eq.1 e]))
theorem lab_ne {x y : Lab} (h : ¬ cmpLab x y = 0) : (x.f0.toList == y.f0.toList && (x.f1.toList == y.f1.toList)) = false := by
 by_cases h0 : x.f0 = y.f0
 ·by_cases h1 : x.f1 = y.f1
  ·exact absurd (cmpLab_eq.2 (lab_ext h0 h1)) h
  ·have : ¬ x.f1.toList = y.f1.toList := fun e => h1 ((toList_eq _ _).1 e)
   simp [this]
 ·have : ¬ x.f0.toList = y.f0.toList := fun e => h0 ((toList_eq _ _).1 e)
  simp [this]
theorem equalL_calls (A B : Option Addr) (c d : Nat) (a b : List Lab) (w : World) (ha : Kd.C k62 w A a.length a) (hb : Kd.C k62 w B b.length b) :
  Calls Tryz.prog 87 #[.slice A a.length c, .slice B b.length d] w fun e w' => e = .returned (.bool (eqL a b)) ∧ Below w.heap.size w w' := by
 have hma : a.length ≤ 9223372036854775807 := Kd.C_max ha
 have HA := Sd.mk ha
 have HB := Sd.mk hb
 clear ha hb
 have mixed : Tryz.prog.follows .mixedOrders = true := by kernel_rfl
 by_cases hl : a.length = b.length
 ·have HL := Sd.mk hl
  have n0 : ((a.length : Int) != (b.length : Int)) = false := by simp [hl]
  have n1 : (a.length != b.length) = false := by simp [hl]
  clear hl
  go_enter Tryz.func87, Tryz.ntmps87
  go_wp2
  go_loopw [4, 5, 13] (fun v4 _ v13 wr => ∃ i : Nat, i ≤ a.length ∧ v4 = .bool false ∧ v13 = .int .i64 i ∧ Sd (eqL a b = eqL (a.drop i) (b.drop i)) ∧ Sd (Below w.heap.size w wr)) (fun _ _ v13 _ => a.length - (intOf v13).toNat)
  case atStart => exact ⟨0, Nat.zero_le _, rfl, rfl, ⟨rfl⟩, ⟨Below.refl _ _⟩⟩
  case round =>
   obtain ⟨i, hi, rfl, rfl, HT, HW⟩ := hrel
   by_cases hlt : i < a.length
   ·have hj : i < b.length := by rw [← HL.out]; exact hlt
    have b1 : (i : Int) < (a.length : Int) := by omega
    have b2 : (i : Int) < (b.length : Int) := by omega
    obtain ⟨ad, rfl, p0, p1⟩ := at_T62 (Kd.C_below HA.out HW.out) (i : Int) (by omega) (by omega)
    obtain ⟨ad2, rfl, r0, r1⟩ := at_T62 (Kd.C_below HB.out HW.out) (i : Int) (by omega) (by omega)
    rw [Int.toNat_natCast, rdL_at hlt] at p0 p1
    rw [Int.toNat_natCast, rdL_at hj] at r0 r1
    have HX := Sd.mk (show eqL a b = (decide (cmpLab a[i] b[i] = 0) && eqL (a.drop (i + 1)) (b.drop (i + 1))) by rw [HT.out, List.drop_eq_getElem_cons hlt, List.drop_eq_getElem_cons hj, eqL_cons])
    generalize a[i] = x at p0 p1 HX
    generalize b[i] = y at r0 r1 HX
    have q0 := fun p : Bw wr => p.cell p0
    have q1 := fun p : Bw wr => p.cell p1
    have s0 := fun p : Bw wr => p.cell r0
    have s1 := fun p : Bw wr => p.cell r1
    clear p0 p1 r0 r1 HT
    by_cases he : cmpLab x y = 0
    ·have HZ := Sd.mk (show eqL a b = eqL (a.drop (i + 1)) (b.drop (i + 1)) by rw [HX.out, decide_eq_true he, Bool.true_and])
     obtain rfl := cmpLab_eq.1 he
     clear he HX
     go_wp2_with fail
     refine wp_region_Bw (by assumption) (by kernel_rfl) ?_
     repeat ((with_reducible refine wpQuiet_step (fun K hK => ?_)); go_simp; first | ((with_reducible refine hK _ ?_); clear hK K) | (rw [if_neg (by decide)]; (with_reducible refine hK _ ?_); clear hK K))
     refine wpQuiet_nil ?_
     intro _ hw'
     obtain ⟨p, rfl⟩ := hw'
     have HB2 := Sd.mk (HW.out.trans (p.h.mono HW.out.size))
     go_wp2
     go_roundw
     case rel => exact ⟨i + 1, by omega, rfl, by go_num, HZ, HB2⟩
     case measure => simp [intOf]; omega
    ·have HZ := Sd.mk (show eqL a b = false by rw [HX.out, decide_eq_false he, Bool.false_and])
     have ne := lab_ne he
     clear he HX
     go_wp2_with fail
     refine wp_region_Bw (by assumption) (by kernel_rfl) ?_
     repeat ((with_reducible refine wpQuiet_step (fun K hK => ?_)); go_simp; first | ((with_reducible refine hK _ ?_); clear hK K) | (rw [if_neg (by decide)]; (with_reducible refine hK _ ?_); clear hK K))
     refine wpQuiet_nil ?_
     intro _ hw'
     obtain ⟨p, rfl⟩ := hw'
     have HB2 := Sd.mk (HW.out.trans (p.h.mono HW.out.size))
     go_wp2
     go_ret
     exact ⟨by rw [HZ.out]; rfl, HB2.out⟩
   ·have m1 : decide ((i : Int) < (a.length : Int)) = false := decide_eq_false (by omega)
    have m2 : decide (i < a.length) = false := decide_eq_false hlt
    have HZ := Sd.mk (show eqL a b = true by rw [HT.out, List.drop_of_length_le (by omega), List.drop_of_length_le (by rw [← HL.out]; omega)]; rfl)
    go_wp2
    go_ret
    exact ⟨by rw [HZ.out]; rfl, HW.out⟩
 ·have HZ := Sd.mk (eqL_len hl)
  have n0 : ((a.length : Int) != (b.length : Int)) = true := by simp; omega
  have n1 : (a.length != b.length) = true := by simpa using hl
  clear hl
  go_enter Tryz.func87, Tryz.ntmps87
  go_wp2
  go_ret
  exact ⟨by rw [HZ.out]; rfl, Below.refl _ _⟩
theorem isSet_at (l : List Lab) (h : (vMake l).2 = 0) : isSet l = eqL (vMake l).1 l := by
 have : isSet l = true ↔ eqL (vMake l).1 l = true := by
  rw [make_set]
  unfold eqL
  rw [decide_eq_true_iff, cmpL_eq]
  constructor
  ·intro e; rw [e]
  ·intro e; exact Prod.ext e h
 cases h1 : isSet l <;> cases h2 : eqL (vMake l).1 l <;> simp_all
theorem isSet_calls (A : Option Addr) (c : Nat) (l : List Lab) (hl : LabsOk l) (hb : l.length * 32 ≤ 140737488355328) (w : World) (hr : Kd.C k62 w A l.length l) :
  Calls Tryz.prog 52 #[.slice A l.length c] w fun e w' => e = .returned (.bool (isSet l)) ∧ Below w.heap.size w w' := by
 have HM := Sd.mk (lmake_calls A c l hl hb w hr)
 have HR := Sd.mk hr
 have hset : (vMake l).2 ≠ 0 → isSet l = false := fun h => by
  cases h1 : isSet l with
  | false => rfl
  | true => exact absurd (by rw [(make_set l).1 h1]) h
 have hat := isSet_at l
 generalize vMake l = r at HM hset hat
 obtain ⟨s, n⟩ := r
 simp only at HM hset hat
 clear hr hl hb
 by_cases h0 : n = 0
 ·subst h0
  have HZ := Sd.mk (hat rfl)
  clear hat hset
  go_enter Tryz.func52, Tryz.ntmps52
  go_wp2_with fail
  refine HM.out.mono ?_
  rintro e w1 ⟨v, rfl, hv, hb1⟩
  obtain ⟨A2, c2, rfl, _, hC⟩ := Kd.R_reads hv
  have HE := Sd.mk (equalL_calls A2 A c2 c s l w1 hC (Kd.C_below HR.out hb1))
  have HB := Sd.mk hb1
  clear hv hb1 hC
  go_wp2_with (go_at_call 87; refine HE.out.mono ?_; rintro e w2 ⟨rfl, hb2⟩; have HB2 := Sd.mk (HB.out.trans (hb2.mono HB.out.size)); clear hb2)
  go_ret
  exact ⟨by rw [HZ.out]; simp, HB2.out⟩
 ·have HZ := Sd.mk (hset h0)
  have n0 : (n == 0) = false := by simpa using h0
  clear hat hset h0
  go_enter Tryz.func52, Tryz.ntmps52
  go_wp2_with fail
  refine HM.out.mono ?_
  rintro e w1 ⟨v, rfl, hv, hb1⟩
  have HB := Sd.mk hb1
  clear hv hb1
  go_wp2
  go_ret
  exact ⟨by rw [HZ.out]; rfl, HB.out⟩
attribute [local go_sem] max2_int min2_int max_two min_two max_three min_three max_four min_four   -- for this text's walks alone
attribute [local go_sem high] eqA25
mutual
def v_add.j0 : Nat → Bool → Int → Int → Int → Int → Option (Int × Int)
 | 0, _, _, _, _, _ => none
 | k + 1, x5, x111000, x111001, x112000, x112001 => if x5 = true then ((v_Num.f (wrap64 (x111001 + x112001))).bind fun bt115 => (some (bt115.1, bt115.2))) else ((v_finite.f x111000 x111001).bind fun t117 => (if t117 = true then (v_add.j1 k false x111000 x111001 x112000 x112001) else ((v_finite.f x112000 x112001).bind fun t118 => (if t118 = true then (v_add.j1 k false x111000 x111001 x112000 x112001) else (v_add.j1 k (!(x111000 == x112000) || (!(x111001 == x112001))) x111000 x111001 x112000 x112001)))))
def v_add.j1 : Nat → Bool → Int → Int → Int → Int → Option (Int × Int)
 | 0, _, _, _, _, _ => none
 | k + 1, x18, x111000, x111001, x112000, x112001 => if x18 = true then ((v_NaN.f).bind fun bt119 => (some (bt119.1, bt119.2))) else ((v_finite.f x111000 x111001).bind fun t121 => (if t121 = true then (some (x112000, x112001)) else (some (x111000, x111001))))
end
def v_add.f (k : Nat) (a0_0 : Int) (a0_1 : Int) (a1_0 : Int) (a1_1 : Int) : Option (Int × Int) := (v_finite.f a0_0 a0_1).bind fun t113 => (if t113 = true then ((v_finite.f a1_0 a1_1).bind fun t114 => (v_add.j0 k t114 a0_0 a0_1 a1_0 a1_1)) else (v_add.j0 k false a0_0 a0_1 a1_0 a1_1))
theorem v_add.calls (k : Nat) (a0_0 : Int) (a0_1 : Int) (a1_0 : Int) (a1_1 : Int) (r1 : Int) (r2 : Int) (w : World) (h : v_add.f k a0_0 a0_1 a1_0 a1_1 = some (r1, r2)) :
  Calls Tryz.prog 127 #[.agg #[.int .i64 a0_0, .int .i64 a0_1], .agg #[.int .i64 a1_0, .int .i64 a1_1]] w fun e w' => e = .returned (.agg #[.int .i64 r1, .int .i64 r2]) ∧ Below w.heap.size w w' := by
 have hu25 := Tryz.underlying25
 have HB := zsB w
 have H : ((v_finite.f a0_0 a0_1).bind fun t113 => (if t113 = true then ((v_finite.f a1_0 a1_1).bind fun t114 => (v_add.j0 k t114 a0_0 a0_1 a1_0 a1_1)) else (v_add.j0 k false a0_0 a0_1 a1_0 a1_1))) = some (r1, r2) := h
 clear h
 have HC3 := Sd.mk H
 clear H
 go_enter Tryz.func127, Tryz.ntmps127
 go_upto_region 1 with (first | ((with_reducible refine gate_dst (N := 2) rfl ?_); refine bxe (N := 2) (cs := #[.int .i64 a0_0, .int .i64 a0_1]) (t := 25) ?_; intro gb110 hg w4 hbox hb; have BK110 := Sd.mk hbox; have GW110 := bge w hg; replace HB := bsq w hb; clear hb hbox hg) | ((with_reducible refine gate_dst (N := 3) rfl ?_); refine bxe (N := 3) (cs := #[.int .i64 a1_0, .int .i64 a1_1]) (t := 25) ?_; intro gb111 hg w5 hbox hb; have BK111 := Sd.mk hbox; have GW111 := bge w hg; have NB110_111 := bnl BK110 hg; have NB111_110 := bng BK110 hg; replace BK110 := bkb BK110 hb; replace HB := bsq w hb; clear hb hbox hg) | ((with_reducible refine gate_dst (N := 4) rfl ?_); refine bxe (N := 4) (cs := #[.int .i64 0, .int .i64 0]) (t := 25) ?_; intro gb112 hg w6 hbox hb; have BK112 := Sd.mk hbox; have GW112 := bge w hg; have NB110_112 := bnl BK110 hg; have NB112_110 := bng BK110 hg; have NB111_112 := bnl BK111 hg; have NB112_111 := bng BK111 hg; replace BK110 := bkb BK110 hb; replace BK111 := bkb BK111 hb; replace HB := bsq w hb; clear hb hbox hg))
 (try simp only [Act.put, List.setIfInBounds_toArray, List.set_cons_zero, List.set_cons_succ])
 go_cut [5] (fun v5 wc => ∃ (kq : Nat) (x5_2 : Bool), v5 = .bool x5_2 ∧ Sd (v_add.j0 kq x5_2 a0_0 a0_1 a1_0 a1_1 = some (r1, r2)) ∧ Sd (kq ≤ k) ∧ Sd (wc.heap[gb110]? = some (.cells #[.int .i64 a0_0, .int .i64 a0_1] 25 (0, 0))) ∧ Sd (wc.heap[gb111]? = some (.cells #[.int .i64 a1_0, .int .i64 a1_1] 25 (0, 0))) ∧ Sd (wc.heap[gb112]? = some (.cells #[.int .i64 0, .int .i64 0] 25 (0, 0))) ∧ Sd (Below w.heap.size w wc))
 case first =>
  have H := HC3.out
  clear HC3
  obtain ⟨t113, A7, H⟩ := bnd H
  by_cases c8 : t113 = true
  ·subst c8
   replace H := iT H
   obtain ⟨t114, A9, H⟩ := bnd H
   have H' := Sd.mk H
   clear H
   have := NB110_111.out
   have := NB111_110.out
   have := NB110_112.out
   have := NB112_110.out
   obtain ⟨_, _, _, _⟩ := bz BK110
   go_wp2_with (first | ((with_reducible refine gate_callee (f := 122) rfl ?_); refine goesL_ (some 7) rfl rfl Tryz.func122 (by kernel_rfl) rfl #[.agg #[.int .i64 a0_0, .int .i64 a0_1]] rfl ma ?_; (with_reducible refine (v_finite.calls a0_0 a0_1 true _ A7.out).mono ?_); rintro e w13 ⟨rfl, hb⟩; refine ⟨_, rfl, ?_⟩; replace BK110 := bkb BK110 hb; replace BK111 := bkb BK111 hb; replace BK112 := bkb BK112 hb; replace HB := bsq w hb; (try clear hb); have hnb14 := NB111_112.out; have hnc14 := NB112_111.out; have hcz15_0 := bz0 BK111; have hcz15_1 := bz1 BK111; have hfz15_0 := blk_frozen BK111.out 0; have hfz15_1 := blk_frozen BK111.out 1) | (go_at_call 122; (with_reducible refine (v_finite.calls a1_0 a1_1 t114 _ A9.out).mono ?_); rintro e w16 ⟨rfl, hb⟩; replace BK110 := bkb BK110 hb; replace BK111 := bkb BK111 hb; replace BK112 := bkb BK112 hb; replace HB := bsq w hb; (try clear hb)))
   go_meet
   case rel => exact ⟨_, (t114), ae, H', ⟨by first | omega | exact Nat.le_refl _⟩, fwK BK110, fwK BK111, fwK BK112, ⟨bbl⟩⟩
  ·replace c8 := znf c8
   subst c8
   replace H := iF H
   have H' := Sd.mk H
   clear H
   have := NB110_111.out
   have := NB111_110.out
   have := NB110_112.out
   have := NB112_110.out
   obtain ⟨_, _, _, _⟩ := bz BK110
   go_wp2_with (first | ((with_reducible refine gate_callee (f := 122) rfl ?_); refine goesL_ (some 7) rfl rfl Tryz.func122 (by kernel_rfl) rfl #[.agg #[.int .i64 a0_0, .int .i64 a0_1]] rfl ma ?_; (with_reducible refine (v_finite.calls a0_0 a0_1 false _ A7.out).mono ?_); rintro e w20 ⟨rfl, hb⟩; refine ⟨_, rfl, ?_⟩; replace BK110 := bkb BK110 hb; replace BK111 := bkb BK111 hb; replace BK112 := bkb BK112 hb; replace HB := bsq w hb; (try clear hb)))
   go_meet
   case rel => exact ⟨_, (false), ae, H', ⟨by first | omega | exact Nat.le_refl _⟩, fwK BK110, fwK BK111, fwK BK112, ⟨bbl⟩⟩
 case rest =>
  clear HC3
  obtain ⟨kq, x5_2, rfl, HA, HJ2, BK110, BK111, BK112, HB⟩ := hcut
  cases kq with
  | zero => exact absurd HA.out (by simp [v_add.j0])
  | succ kj2 =>
   have H := HA.out
   clear HA
   simp only [v_add.j0] at H
   by_cases c21 : x5_2 = true
   ·subst c21
    replace H := iT H
    obtain ⟨⟨t115, t116⟩, A22, H⟩ := bnd H
    replace H : (some (t115, t116)) = some (r1, r2) := H
    obtain ⟨rfl, rfl⟩ := zs2 H
    have := NB110_111.out
    have := NB111_110.out
    have := NB110_112.out
    have := NB112_110.out
    obtain ⟨_, _, _, _⟩ := bz BK110
    have := NB111_112.out
    have := NB112_111.out
    obtain ⟨_, _, _, _⟩ := bz BK111
    go_wp2_with (first | ((with_reducible refine gate_callee (f := 76) rfl ?_); refine goesL_ (some 17) rfl rfl Tryz.func76 (by kernel_rfl) rfl #[.int .i64 (wrap64 (a0_1 + a1_1))] rfl ma ?_; (with_reducible refine (v_Num.calls (wrap64 (a0_1 + a1_1)) t115 t116 _ A22.out).mono ?_); rintro e w28 ⟨rfl, hb⟩; refine ⟨_, rfl, ?_⟩; replace BK110 := bkb BK110 hb; replace BK111 := bkb BK111 hb; replace BK112 := bkb BK112 hb; replace HB := bsq w hb; (try clear hb); have hcz29_0 := bz0 BK112; have hcz29_1 := bz1 BK112; have hfz29_0 := blk_frozen BK112.out 0; have hfz29_1 := blk_frozen BK112.out 1))
    refine bodyPost_ret (results_cell_row rfl _ _ gb112 25 #[.int .i64 t115, .int .i64 t116] (0, 0) _ rfl (by (repeat refine dw ?_); refine blk_put (cs := #[.int .i64 t115, .int .i64 0]) ?_ 1 _ rfl; (repeat refine dw ?_); refine blk_put (cs := #[.int .i64 0, .int .i64 0]) ?_ 0 _ rfl; (repeat refine dw ?_); exact BK112.out) Tryz.underlying25 rfl (by kernel_rfl)) rfl ?_
    exact ⟨fe, bbl⟩
   ·replace c21 := znf c21
    subst c21
    replace H := iF H
    have HC30 := Sd.mk H
    clear H
    go_upto_region 3 with (fail)
    go_cut [18] (fun v18 wc => ∃ (kq : Nat) (x18_29 : Bool), v18 = .bool x18_29 ∧ Sd (v_add.j1 kq x18_29 a0_0 a0_1 a1_0 a1_1 = some (r1, r2)) ∧ Sd (kq ≤ kj2) ∧ Sd (wc.heap[gb110]? = some (.cells #[.int .i64 a0_0, .int .i64 a0_1] 25 (0, 0))) ∧ Sd (wc.heap[gb111]? = some (.cells #[.int .i64 a1_0, .int .i64 a1_1] 25 (0, 0))) ∧ Sd (wc.heap[gb112]? = some (.cells #[.int .i64 0, .int .i64 0] 25 (0, 0))) ∧ Sd (Below w.heap.size w wc))
    case first =>
     have H := HC30.out
     clear HC30
     obtain ⟨t117, A31, H⟩ := bnd H
     by_cases c32 : t117 = true
     ·subst c32
      replace H := iT H
      have H' := Sd.mk H
      clear H
      have := NB110_111.out
      have := NB111_110.out
      have := NB110_112.out
      have := NB112_110.out
      obtain ⟨_, _, _, _⟩ := bz BK110
      go_wp2_with (first | ((with_reducible refine gate_callee (f := 122) rfl ?_); refine goesL_ (some 20) rfl rfl Tryz.func122 (by kernel_rfl) rfl #[.agg #[.int .i64 a0_0, .int .i64 a0_1]] rfl ma ?_; (with_reducible refine (v_finite.calls a0_0 a0_1 true _ A31.out).mono ?_); rintro e w36 ⟨rfl, hb⟩; refine ⟨_, rfl, ?_⟩; replace BK110 := bkb BK110 hb; replace BK111 := bkb BK111 hb; replace BK112 := bkb BK112 hb; replace HB := bsq w hb; (try clear hb)))
      go_meet
      case rel => exact ⟨_, (false), ae, H', ⟨by have := HJ2.out; first | omega | exact Nat.le_refl _⟩, fwK BK110, fwK BK111, fwK BK112, ⟨bbl⟩⟩
     ·replace c32 := znf c32
      subst c32
      replace H := iF H
      obtain ⟨t118, A37, H⟩ := bnd H
      by_cases c38 : t118 = true
      ·subst c38
       replace H := iT H
       have H' := Sd.mk H
       clear H
       have := NB110_111.out
       have := NB111_110.out
       have := NB110_112.out
       have := NB112_110.out
       obtain ⟨_, _, _, _⟩ := bz BK110
       go_wp2_with (first | ((with_reducible refine gate_callee (f := 122) rfl ?_); refine goesL_ (some 20) rfl rfl Tryz.func122 (by kernel_rfl) rfl #[.agg #[.int .i64 a0_0, .int .i64 a0_1]] rfl ma ?_; (with_reducible refine (v_finite.calls a0_0 a0_1 false _ A31.out).mono ?_); rintro e w42 ⟨rfl, hb⟩; refine ⟨_, rfl, ?_⟩; replace BK110 := bkb BK110 hb; replace BK111 := bkb BK111 hb; replace BK112 := bkb BK112 hb; replace HB := bsq w hb; (try clear hb); have hnb43 := NB111_112.out; have hnc43 := NB112_111.out; have hcz44_0 := bz0 BK111; have hcz44_1 := bz1 BK111; have hfz44_0 := blk_frozen BK111.out 0; have hfz44_1 := blk_frozen BK111.out 1) | (go_at_call 122; (with_reducible refine (v_finite.calls a1_0 a1_1 true _ A37.out).mono ?_); rintro e w45 ⟨rfl, hb⟩; replace BK110 := bkb BK110 hb; replace BK111 := bkb BK111 hb; replace BK112 := bkb BK112 hb; replace HB := bsq w hb; (try clear hb)))
       go_meet
       case rel => exact ⟨_, (false), ae, H', ⟨by have := HJ2.out; first | omega | exact Nat.le_refl _⟩, fwK BK110, fwK BK111, fwK BK112, ⟨bbl⟩⟩
      ·replace c38 := znf c38
       subst c38
       replace H := iF H
       have H' := Sd.mk H
       clear H
       have := NB110_111.out
       have := NB111_110.out
       have := NB110_112.out
       have := NB112_110.out
       obtain ⟨_, _, _, _⟩ := bz BK110
       go_wp2_with (first | ((with_reducible refine gate_callee (f := 122) rfl ?_); refine goesL_ (some 20) rfl rfl Tryz.func122 (by kernel_rfl) rfl #[.agg #[.int .i64 a0_0, .int .i64 a0_1]] rfl ma ?_; (with_reducible refine (v_finite.calls a0_0 a0_1 false _ A31.out).mono ?_); rintro e w49 ⟨rfl, hb⟩; refine ⟨_, rfl, ?_⟩; replace BK110 := bkb BK110 hb; replace BK111 := bkb BK111 hb; replace BK112 := bkb BK112 hb; replace HB := bsq w hb; (try clear hb); have hnb50 := NB111_112.out; have hnc50 := NB112_111.out; have hcz51_0 := bz0 BK111; have hcz51_1 := bz1 BK111; have hfz51_0 := blk_frozen BK111.out 0; have hfz51_1 := blk_frozen BK111.out 1) | (go_at_call 122; (with_reducible refine (v_finite.calls a1_0 a1_1 false _ A37.out).mono ?_); rintro e w52 ⟨rfl, hb⟩; replace BK110 := bkb BK110 hb; replace BK111 := bkb BK111 hb; replace BK112 := bkb BK112 hb; replace HB := bsq w hb; (try clear hb); have hcz53_0 := bz0 BK110; have hcz53_1 := bz1 BK110; have hfz53_0 := blk_frozen BK110.out 0; have hfz53_1 := blk_frozen BK110.out 1; have hcz54_0 := bz0 BK111; have hcz54_1 := bz1 BK111; have hfz54_0 := blk_frozen BK111.out 0; have hfz54_1 := blk_frozen BK111.out 1))
       go_meet
       case rel => exact ⟨_, ((!(a0_0 == a1_0) || (!(a0_1 == a1_1)))), ae, H', ⟨by have := HJ2.out; first | omega | exact Nat.le_refl _⟩, fwK BK110, fwK BK111, fwK BK112, ⟨bbl⟩⟩
    case rest =>
     clear HC30
     obtain ⟨kq, x18_29, rfl, HA, HJ29, BK110, BK111, BK112, HB⟩ := hcut
     cases kq with
     | zero => exact absurd HA.out (by simp [v_add.j1])
     | succ kj29 =>
      have H := HA.out
      clear HA
      simp only [v_add.j1] at H
      by_cases c55 : x18_29 = true
      ·subst c55
       replace H := iT H
       obtain ⟨⟨t119, t120⟩, A56, H⟩ := bnd H
       replace H : (some (t119, t120)) = some (r1, r2) := H
       obtain ⟨rfl, rfl⟩ := zs2 H
       go_wp2_with (first | ((with_reducible refine gate_callee (f := 42) rfl ?_); refine goesL_ (some 32) rfl rfl Tryz.func42 (by kernel_rfl) rfl #[] rfl ma ?_; (with_reducible refine (v_NaN.calls  t119 t120 _ A56.out).mono ?_); rintro e w57 ⟨rfl, hb⟩; refine ⟨_, rfl, ?_⟩; replace BK110 := bkb BK110 hb; replace BK111 := bkb BK111 hb; replace BK112 := bkb BK112 hb; replace HB := bsq w hb; (try clear hb); have hnb58 := NB112_110.out; have hnc58 := NB110_112.out; have hnb59 := NB112_111.out; have hnc59 := NB111_112.out; have hcz60_0 := bz0 BK112; have hcz60_1 := bz1 BK112; have hfz60_0 := blk_frozen BK112.out 0; have hfz60_1 := blk_frozen BK112.out 1))
       refine bodyPost_ret (results_cell_row rfl _ _ gb112 25 #[.int .i64 t119, .int .i64 t120] (0, 0) _ rfl (by (repeat refine dw ?_); refine blk_put (cs := #[.int .i64 t119, .int .i64 0]) ?_ 1 _ rfl; (repeat refine dw ?_); refine blk_put (cs := #[.int .i64 0, .int .i64 0]) ?_ 0 _ rfl; (repeat refine dw ?_); exact BK112.out) Tryz.underlying25 rfl (by kernel_rfl)) rfl ?_
       exact ⟨fe, bbl⟩
      ·replace c55 := znf c55
       subst c55
       replace H := iF H
       obtain ⟨t121, A61, H⟩ := bnd H
       by_cases c62 : t121 = true
       ·subst c62
        replace H := iT H
        obtain ⟨rfl, rfl⟩ := zs2 H
        have := NB110_111.out
        have := NB111_110.out
        have := NB110_112.out
        have := NB112_110.out
        obtain ⟨_, _, _, _⟩ := bz BK110
        go_wp2_with (first | ((with_reducible refine gate_callee (f := 122) rfl ?_); refine goesL_ (some 35) rfl rfl Tryz.func122 (by kernel_rfl) rfl #[.agg #[.int .i64 a0_0, .int .i64 a0_1]] rfl ma ?_; (with_reducible refine (v_finite.calls a0_0 a0_1 true _ A61.out).mono ?_); rintro e w66 ⟨rfl, hb⟩; refine ⟨_, rfl, ?_⟩; replace BK110 := bkb BK110 hb; replace BK111 := bkb BK111 hb; replace BK112 := bkb BK112 hb; replace HB := bsq w hb; (try clear hb); have hnb67 := NB111_112.out; have hnc67 := NB112_111.out; have hcz68_0 := bz0 BK111; have hcz68_1 := bz1 BK111; have hfz68_0 := blk_frozen BK111.out 0; have hfz68_1 := blk_frozen BK111.out 1; have hcz69_0 := bz0 BK112; have hcz69_1 := bz1 BK112; have hfz69_0 := blk_frozen BK112.out 0; have hfz69_1 := blk_frozen BK112.out 1))
        refine bodyPost_ret (results_cell_row rfl _ _ gb112 25 #[.int .i64 a1_0, .int .i64 a1_1] (0, 0) _ rfl (by (repeat refine dw ?_); refine blk_put (cs := #[.int .i64 a1_0, .int .i64 0]) ?_ 1 _ rfl; (repeat refine dw ?_); refine blk_put (cs := #[.int .i64 0, .int .i64 0]) ?_ 0 _ rfl; (repeat refine dw ?_); exact BK112.out) Tryz.underlying25 rfl (by kernel_rfl)) rfl ?_
        exact ⟨fe, bbl⟩
       ·replace c62 := znf c62
        subst c62
        replace H := iF H
        obtain ⟨rfl, rfl⟩ := zs2 H
        have := NB110_111.out
        have := NB111_110.out
        have := NB110_112.out
        have := NB112_110.out
        obtain ⟨_, _, _, _⟩ := bz BK110
        go_wp2_with (first | ((with_reducible refine gate_callee (f := 122) rfl ?_); refine goesL_ (some 35) rfl rfl Tryz.func122 (by kernel_rfl) rfl #[.agg #[.int .i64 a0_0, .int .i64 a0_1]] rfl ma ?_; (with_reducible refine (v_finite.calls a0_0 a0_1 false _ A61.out).mono ?_); rintro e w73 ⟨rfl, hb⟩; refine ⟨_, rfl, ?_⟩; replace BK110 := bkb BK110 hb; replace BK111 := bkb BK111 hb; replace BK112 := bkb BK112 hb; replace HB := bsq w hb; (try clear hb); have hcz74_0 := bz0 BK110; have hcz74_1 := bz1 BK110; have hfz74_0 := blk_frozen BK110.out 0; have hfz74_1 := blk_frozen BK110.out 1; have hnb75 := NB112_111.out; have hnc75 := NB111_112.out; have hcz76_0 := bz0 BK112; have hcz76_1 := bz1 BK112; have hfz76_0 := blk_frozen BK112.out 0; have hfz76_1 := blk_frozen BK112.out 1))
        refine bodyPost_ret (results_cell_row rfl _ _ gb112 25 #[.int .i64 a0_0, .int .i64 a0_1] (0, 0) _ rfl (by (repeat refine dw ?_); refine blk_put (cs := #[.int .i64 a0_0, .int .i64 0]) ?_ 1 _ rfl; (repeat refine dw ?_); refine blk_put (cs := #[.int .i64 0, .int .i64 0]) ?_ 0 _ rfl; (repeat refine dw ?_); exact BK112.out) Tryz.underlying25 rfl (by kernel_rfl)) rfl ?_
        exact ⟨fe, bbl⟩
def v_rank.f (a0_0 : Int) (a0_1 : Int) : Option (Int) := if a0_0 = 4 then (some 1000000000000001) else (if a0_0 = 5 then (some (-1000000000000001)) else (some a0_1))
theorem v_rank.calls (a0_0 : Int) (a0_1 : Int) (r : Int) (w : World) (h : v_rank.f a0_0 a0_1 = some r) :
  Calls Tryz.prog 130 #[.agg #[.int .i64 a0_0, .int .i64 a0_1]] w fun e w' => e = .returned (.int .i64 r) ∧ Below w.heap.size w w' := by
 have hu25 := Tryz.underlying25
 have HB := zsB w
 have H : (if a0_0 = 4 then (some 1000000000000001) else (if a0_0 = 5 then (some (-1000000000000001)) else (some a0_1))) = some r := h
 clear h
 by_cases c2 : a0_0 = 4
 ·rw [if_pos c2] at H
  have c2b0 := beq_iff_eq.mpr c2
  have c2b1 := bne_eq_false_iff_eq.mpr c2
  clear c2
  obtain rfl := zso H
  go_enter Tryz.func130, Tryz.ntmps130
  go_wp2_with (first | ((with_reducible refine gate_dst (N := 1) rfl ?_); refine bxe (N := 1) (cs := #[.int .i64 a0_0, .int .i64 a0_1]) (t := 25) ?_; intro gb122 hg w3 hbox hb; have BK122 := Sd.mk hbox; have GW122 := bge w hg; have GE122 := bge w hg; replace HB := bsq w hb; clear hb hbox hg; have hcz4_0 := bz0 BK122; have hcz4_1 := bz1 BK122; have hfz4_0 := blk_frozen BK122.out 0; have hfz4_1 := blk_frozen BK122.out 1))
  go_ret
  exact ⟨fe, bbl⟩
 ·rw [if_neg c2] at H
  have c2b0 := beq_eq_false_iff_ne.mpr c2
  have c2b1 := bne_iff_ne.mpr c2
  by_cases c5 : a0_0 = 5
  ·rw [if_pos c5] at H
   have c5b0 := beq_iff_eq.mpr c5
   have c5b1 := bne_eq_false_iff_eq.mpr c5
   clear c5
   obtain rfl := zso H
   go_enter Tryz.func130, Tryz.ntmps130
   go_wp2_with (first | ((with_reducible refine gate_dst (N := 1) rfl ?_); refine bxe (N := 1) (cs := #[.int .i64 a0_0, .int .i64 a0_1]) (t := 25) ?_; intro gb122 hg w6 hbox hb; have BK122 := Sd.mk hbox; have GW122 := bge w hg; have GE122 := bge w hg; replace HB := bsq w hb; clear hb hbox hg; have hcz7_0 := bz0 BK122; have hcz7_1 := bz1 BK122; have hfz7_0 := blk_frozen BK122.out 0; have hfz7_1 := blk_frozen BK122.out 1))
   go_ret
   exact ⟨fe, bbl⟩
  ·rw [if_neg c5] at H
   have c5b0 := beq_eq_false_iff_ne.mpr c5
   have c5b1 := bne_iff_ne.mpr c5
   obtain rfl := zso H
   go_enter Tryz.func130, Tryz.ntmps130
   go_wp2_with (first | ((with_reducible refine gate_dst (N := 1) rfl ?_); refine bxe (N := 1) (cs := #[.int .i64 a0_0, .int .i64 a0_1]) (t := 25) ?_; intro gb122 hg w8 hbox hb; have BK122 := Sd.mk hbox; have GW122 := bge w hg; have GE122 := bge w hg; replace HB := bsq w hb; clear hb hbox hg; have hcz9_0 := bz0 BK122; have hcz9_1 := bz1 BK122; have hfz9_0 := blk_frozen BK122.out 0; have hfz9_1 := blk_frozen BK122.out 1))
   go_ret
   exact ⟨fe, bbl⟩
def v_sign.f (a0_0 : Int) (a0_1 : Int) : Option (Int) := (v_rank.f a0_0 a0_1).bind fun t124 => (some (mn (mx t124 (-1)) 1))
theorem v_sign.calls (a0_0 : Int) (a0_1 : Int) (r : Int) (w : World) (h : v_sign.f a0_0 a0_1 = some r) :
  Calls Tryz.prog 161 #[.agg #[.int .i64 a0_0, .int .i64 a0_1]] w fun e w' => e = .returned (.int .i64 r) ∧ Below w.heap.size w w' := by
 have hu25 := Tryz.underlying25
 have HB := zsB w
 have H : ((v_rank.f a0_0 a0_1).bind fun t124 => (some (mn (mx t124 (-1)) 1))) = some r := h
 clear h
 obtain ⟨t124, A2, H⟩ := bnd H
 obtain ⟨ji3, hji3⟩ : ∃ j_ : Int, (mx t124 (-1)) = j_ := ⟨_, rfl⟩
 replace H : (some (mn (ji3) 1)) = some r := by first | (rw [hji3] at H; exact H) | (simp only [hji3] at H ⊢; exact H)
 (try rw [hji3] at A2)
 have hji3_ : (if t124 < (-1) then (-1) else t124) = ji3 := hji3
 obtain ⟨ji4, hji4⟩ : ∃ j_ : Int, (mn (ji3) 1) = j_ := ⟨_, rfl⟩
 replace H : (some ji4) = some r := by first | (rw [hji4] at H; exact H) | (simp only [hji4] at H ⊢; exact H)
 (try rw [hji4] at A2)
 have hji4_ : (if 1 < (ji3) then 1 else (ji3)) = ji4 := hji4
 obtain rfl := zso H
 go_enter Tryz.func161, Tryz.ntmps161
 go_wp2_with (first | ((with_reducible refine gate_dst (N := 1) rfl ?_); refine bxe (N := 1) (cs := #[.int .i64 a0_0, .int .i64 a0_1]) (t := 25) ?_; intro gb123 hg w5 hbox hb; have BK123 := Sd.mk hbox; have GW123 := bge w hg; replace HB := bsq w hb; clear hb hbox hg; have hcz6_0 := bz0 BK123; have hcz6_1 := bz1 BK123; have hfz6_0 := blk_frozen BK123.out 0; have hfz6_1 := blk_frozen BK123.out 1) | ((with_reducible refine gate_callee (f := 130) rfl ?_); refine goesL_ (some 4) rfl rfl Tryz.func130 (by kernel_rfl) rfl #[.agg #[.int .i64 a0_0, .int .i64 a0_1]] rfl ma ?_; (with_reducible refine (v_rank.calls a0_0 a0_1 t124 _ A2.out).mono ?_); rintro e w7 ⟨rfl, hb⟩; refine ⟨_, rfl, ?_⟩; replace BK123 := bkb BK123 hb; replace HB := bsq w hb; (try clear hb)))
 go_ret
 exact ⟨by first | rfl | (simp [errW_none, errW_some] <;> rfl) | (simp only [← hji3, ← hji4]; first | rfl | (simp [errW_none, errW_some] <;> rfl)) | (simp [*, errW_none, errW_some] <;> rfl), bbl⟩
def v_back.f (a0 : Int) : Option (Int × Int) := (v_Num.f a0).bind fun bt126 => (some (bt126.1, bt126.2))
theorem v_back.calls (a0 : Int) (r1 : Int) (r2 : Int) (w : World) (h : v_back.f a0 = some (r1, r2)) :
  Calls Tryz.prog 129 #[.int .i64 a0] w fun e w' => e = .returned (.agg #[.int .i64 r1, .int .i64 r2]) ∧ Below w.heap.size w w' := by
 have hu25 := Tryz.underlying25
 have HB := zsB w
 have H : ((v_Num.f a0).bind fun bt126 => (some (bt126.1, bt126.2))) = some (r1, r2) := h
 clear h
 obtain ⟨⟨t126, t127⟩, A2, H⟩ := bnd H
 replace H : (some (t126, t127)) = some (r1, r2) := H
 obtain ⟨rfl, rfl⟩ := zs2 H
 go_enter Tryz.func129, Tryz.ntmps129
 go_wp2_with (first | ((with_reducible refine gate_dst (N := 2) rfl ?_); refine bxe (N := 2) (cs := #[.int .i64 0, .int .i64 0]) (t := 25) ?_; intro gb125 hg w3 hbox hb; have BK125 := Sd.mk hbox; have GW125 := bge w hg; replace HB := bsq w hb; clear hb hbox hg) | ((with_reducible refine gate_callee (f := 76) rfl ?_); refine goesL_ (some 4) rfl rfl Tryz.func76 (by kernel_rfl) rfl #[.int .i64 a0] rfl ma ?_; (with_reducible refine (v_Num.calls a0 t126 t127 _ A2.out).mono ?_); rintro e w4 ⟨rfl, hb⟩; refine ⟨_, rfl, ?_⟩; replace BK125 := bkb BK125 hb; replace HB := bsq w hb; (try clear hb); have hcz5_0 := bz0 BK125; have hcz5_1 := bz1 BK125; have hfz5_0 := blk_frozen BK125.out 0; have hfz5_1 := blk_frozen BK125.out 1))
 refine bodyPost_ret (results_cell_row rfl _ _ gb125 25 #[.int .i64 t126, .int .i64 t127] (0, 0) _ rfl (by (repeat refine dw ?_); refine blk_put (cs := #[.int .i64 t126, .int .i64 0]) ?_ 1 _ rfl; (repeat refine dw ?_); refine blk_put (cs := #[.int .i64 0, .int .i64 0]) ?_ 0 _ rfl; (repeat refine dw ?_); exact BK125.out) Tryz.underlying25 rfl (by kernel_rfl)) rfl ?_
 exact ⟨fe, bbl⟩
def v_infinite.f (a0 : Int) : Option (Int × Int) := if a0 = 0 then ((v_NaN.f).bind fun bt129 => (some (bt129.1, bt129.2))) else ((v_back.f ((mn (mx a0 (-1)) 1) * 1000000000000001)).bind fun bt131 => (some (bt131.1, bt131.2)))
theorem v_infinite.calls (a0 : Int) (r1 : Int) (r2 : Int) (w : World) (h : v_infinite.f a0 = some (r1, r2)) :
  Calls Tryz.prog 162 #[.int .i64 a0] w fun e w' => e = .returned (.agg #[.int .i64 r1, .int .i64 r2]) ∧ Below w.heap.size w w' := by
 have hu25 := Tryz.underlying25
 have HB := zsB w
 have H : (if a0 = 0 then ((v_NaN.f).bind fun bt129 => (some (bt129.1, bt129.2))) else ((v_back.f ((mn (mx a0 (-1)) 1) * 1000000000000001)).bind fun bt131 => (some (bt131.1, bt131.2)))) = some (r1, r2) := h
 clear h
 by_cases c2 : a0 = 0
 ·rw [if_pos c2] at H
  have c2b0 := beq_iff_eq.mpr c2
  have c2b1 := bne_eq_false_iff_eq.mpr c2
  clear c2
  obtain ⟨⟨t129, t130⟩, A3, H⟩ := bnd H
  replace H : (some (t129, t130)) = some (r1, r2) := H
  obtain ⟨rfl, rfl⟩ := zs2 H
  go_enter Tryz.func162, Tryz.ntmps162
  go_wp2_with (first | ((with_reducible refine gate_dst (N := 2) rfl ?_); refine bxe (N := 2) (cs := #[.int .i64 0, .int .i64 0]) (t := 25) ?_; intro gb128 hg w4 hbox hb; have BK128 := Sd.mk hbox; have GW128 := bge w hg; have GE128 := bge w hg; replace HB := bsq w hb; clear hb hbox hg) | ((with_reducible refine gate_callee (f := 42) rfl ?_); refine goesL_ (some 5) rfl rfl Tryz.func42 (by kernel_rfl) rfl #[] rfl ma ?_; (with_reducible refine (v_NaN.calls  t129 t130 _ A3.out).mono ?_); rintro e w5 ⟨rfl, hb⟩; refine ⟨_, rfl, ?_⟩; replace BK128 := bkb BK128 hb; replace HB := bsq w hb; (try clear hb); have hcz6_0 := bz0 BK128; have hcz6_1 := bz1 BK128; have hfz6_0 := blk_frozen BK128.out 0; have hfz6_1 := blk_frozen BK128.out 1))
  refine bodyPost_ret (results_cell_row rfl _ _ gb128 25 #[.int .i64 t129, .int .i64 t130] (0, 0) _ rfl (by (repeat refine dw ?_); refine blk_put (cs := #[.int .i64 t129, .int .i64 0]) ?_ 1 _ rfl; (repeat refine dw ?_); refine blk_put (cs := #[.int .i64 0, .int .i64 0]) ?_ 0 _ rfl; (repeat refine dw ?_); exact BK128.out) Tryz.underlying25 rfl (by kernel_rfl)) rfl ?_
  exact ⟨fe, bbl⟩
 ·rw [if_neg c2] at H
  have c2b0 := beq_eq_false_iff_ne.mpr c2
  have c2b1 := bne_iff_ne.mpr c2
  obtain ⟨ji7, hji7⟩ : ∃ j_ : Int, (mx a0 (-1)) = j_ := ⟨_, rfl⟩
  replace H : ((v_back.f ((mn (ji7) 1) * 1000000000000001)).bind fun bt131 => (some (bt131.1, bt131.2))) = some (r1, r2) := by first | (rw [hji7] at H; exact H) | (simp only [hji7] at H ⊢; exact H)
  have hji7_ : (if a0 < (-1) then (-1) else a0) = ji7 := hji7
  obtain ⟨ji8, hji8⟩ : ∃ j_ : Int, (mn (ji7) 1) = j_ := ⟨_, rfl⟩
  replace H : ((v_back.f ((ji8) * 1000000000000001)).bind fun bt131 => (some (bt131.1, bt131.2))) = some (r1, r2) := by first | (rw [hji8] at H; exact H) | (simp only [hji8] at H ⊢; exact H)
  have hji8_ : (if 1 < (ji7) then 1 else (ji7)) = ji8 := hji8
  obtain ⟨⟨t131, t132⟩, A9, H⟩ := bnd H
  replace H : (some (t131, t132)) = some (r1, r2) := H
  obtain ⟨rfl, rfl⟩ := zs2 H
  go_enter Tryz.func162, Tryz.ntmps162
  go_wp2_with (first | ((with_reducible refine gate_dst (N := 2) rfl ?_); refine bxe (N := 2) (cs := #[.int .i64 0, .int .i64 0]) (t := 25) ?_; intro gb128 hg w10 hbox hb; have BK128 := Sd.mk hbox; have GW128 := bge w hg; have GE128 := bge w hg; replace HB := bsq w hb; clear hb hbox hg) | ((with_reducible refine gate_callee (f := 129) rfl ?_); refine goesL_ (some 10) rfl rfl Tryz.func129 (by kernel_rfl) rfl #[.int .i64 ((ji8) * 1000000000000001)] rfl (by (try simp only [List.map_toArray, List.map_cons, List.map_nil]); first | done | (simp only [hji8]; rfl) | rfl | (simp only [List.length_drop, List.length_take]; rfl)) ?_; (with_reducible refine (v_back.calls ((ji8) * 1000000000000001) t131 t132 _ A9.out).mono ?_); rintro e w11 ⟨rfl, hb⟩; refine ⟨_, rfl, ?_⟩; replace BK128 := bkb BK128 hb; replace HB := bsq w hb; (try clear hb); have hcz12_0 := bz0 BK128; have hcz12_1 := bz1 BK128; have hfz12_0 := blk_frozen BK128.out 0; have hfz12_1 := blk_frozen BK128.out 1))
  refine bodyPost_ret (results_cell_row rfl _ _ gb128 25 #[.int .i64 t131, .int .i64 t132] (0, 0) _ rfl (by (repeat refine dw ?_); refine blk_put (cs := #[.int .i64 t131, .int .i64 0]) ?_ 1 _ rfl; (repeat refine dw ?_); refine blk_put (cs := #[.int .i64 0, .int .i64 0]) ?_ 0 _ rfl; (repeat refine dw ?_); exact BK128.out) Tryz.underlying25 rfl (by kernel_rfl)) rfl ?_
  exact ⟨by first | rfl | (simp [errW_none, errW_some] <;> rfl) | (simp only [← hji7, ← hji8]; first | rfl | (simp [errW_none, errW_some] <;> rfl)) | (simp [*, errW_none, errW_some] <;> rfl), bbl⟩
def bits_Mul64.f (a0 : Int) (a1 : Int) : Option (Int × Int) := some (IntKind.u64.wrap ((IntKind.u64.wrap ((IntKind.u64.wrap ((a0 / 4294967296) * (a1 / 4294967296))) + ((IntKind.u64.wrap ((IntKind.u64.wrap ((a0 / 4294967296) * (Go.bits .and .u64 a1 4294967295))) + ((IntKind.u64.wrap ((Go.bits .and .u64 a0 4294967295) * (Go.bits .and .u64 a1 4294967295))) / 4294967296))) / 4294967296))) + ((IntKind.u64.wrap ((Go.bits .and .u64 (IntKind.u64.wrap ((IntKind.u64.wrap ((a0 / 4294967296) * (Go.bits .and .u64 a1 4294967295))) + ((IntKind.u64.wrap ((Go.bits .and .u64 a0 4294967295) * (Go.bits .and .u64 a1 4294967295))) / 4294967296))) 4294967295) + (IntKind.u64.wrap ((Go.bits .and .u64 a0 4294967295) * (a1 / 4294967296))))) / 4294967296)), IntKind.u64.wrap (a0 * a1))
theorem bits_Mul64.calls (a0 : Int) (a1 : Int) (r1 : Int) (r2 : Int) (w : World) (h : bits_Mul64.f a0 a1 = some (r1, r2)) :
  Calls Tryz.prog 163 #[.int .u64 a0, .int .u64 a1] w fun e w' => e = .returned (.tuple #[.int .u64 r1, .int .u64 r2]) ∧ Drawn0 w w' := by
 have H : (some (IntKind.u64.wrap ((IntKind.u64.wrap ((IntKind.u64.wrap ((a0 / 4294967296) * (a1 / 4294967296))) + ((IntKind.u64.wrap ((IntKind.u64.wrap ((a0 / 4294967296) * (Go.bits .and .u64 a1 4294967295))) + ((IntKind.u64.wrap ((Go.bits .and .u64 a0 4294967295) * (Go.bits .and .u64 a1 4294967295))) / 4294967296))) / 4294967296))) + ((IntKind.u64.wrap ((Go.bits .and .u64 (IntKind.u64.wrap ((IntKind.u64.wrap ((a0 / 4294967296) * (Go.bits .and .u64 a1 4294967295))) + ((IntKind.u64.wrap ((Go.bits .and .u64 a0 4294967295) * (Go.bits .and .u64 a1 4294967295))) / 4294967296))) 4294967295) + (IntKind.u64.wrap ((Go.bits .and .u64 a0 4294967295) * (a1 / 4294967296))))) / 4294967296)), IntKind.u64.wrap (a0 * a1))) = some (r1, r2) := h
 clear h
 obtain ⟨rfl, rfl⟩ := zs2 H
 go_enter Tryz.func163, Tryz.ntmps163
 go_wp2
 go_ret2
 exact ⟨ae, zdr⟩
theorem or_part (hi lo : Int) (g0 : 0 ≤ hi) (g1 : hi < 1000) (h0 : 0 ≤ lo) (h1 : lo < 18446744073709551616) : Go.bits .or .u64 (hi * 18014398509481984) (lo / 1024) = hi * 18014398509481984 + lo / 1024 := by
  obtain ⟨a, rfl⟩ := Int.eq_ofNat_of_zero_le g0
  obtain ⟨b, hb⟩ := Int.eq_ofNat_of_zero_le (show 0 ≤ lo / 1024 by omega)
  have hb2 : b < 2 ^ 54 := by have : (b : Int) < 18014398509481984 := by omega
                              have e : (2 : Nat) ^ 54 = 18014398509481984 := rfl
                              omega
  rw [hb, show ((a : Int) * 18014398509481984) = ((2 ^ 54 * a : Nat) : Int) by rw [Int.natCast_mul, Int.mul_comm]; rfl]
  rw [u64_or_nat _ _ (by have e : (2 : Nat) ^ 54 = 18014398509481984 := rfl; omega) (by have e : (2 : Nat) ^ 54 = 18014398509481984 := rfl; omega), ← Nat.two_pow_add_eq_or_of_lt hb2]
  simp
theorem and_zero (V : Int) (h0 : 0 ≤ V) (h1 : V < 18446744073709551616) (hm : V % 4294967296 = 0) : Go.bits .and .u64 V 4294967295 = 0 := by
 obtain ⟨a, rfl⟩ := Int.eq_ofNat_of_zero_le h0
 have e := u64_and_nat a 4294967295 (by omega) (by omega)
 have e2 : a &&& 4294967295 = a % 2 ^ 32 := Nat.and_two_pow_sub_one_eq_mod a 32
 rw [show (4294967295 : Int) = ((4294967295 : Nat) : Int) from rfl, e, e2]
 have : a % 2 ^ 32 = 0 := by have e : (2 : Nat) ^ 32 = 4294967296 := rfl; omega
 rw [this]; rfl
/-- The long division, two digits of 32 bits. -/
theorem long_div (N U u q1 r1 q0 r0 : Int) (hN : U * 4294967296 + u = N * 4194304) (h1 : U = q1 * 4194304000 + r1) (h2 : 0 ≤ r1) (h3 : r1 < 4194304000) (h4 : r1 * 4294967296 + u = q0 * 4194304000 + r0) (h5 : 0 ≤ r0) (h6 : r0 < 4194304000) :
  q1 * 4294967296 + q0 = N / 1000 ∧ r0 / 4194304 = N % 1000 := by
 have e : N * 4194304 = (q1 * 4294967296 + q0) * 4194304000 + r0 := by omega
 generalize q1 * 4294967296 + q0 = q at *
 omega
theorem len_1000 (w : World) : Calls Tryz.prog 179 #[.int .u64 1000] w fun e w' => e = .returned (.int .i64 10) ∧ w' = w := by
 go_enter Tryz.func179, Tryz.ntmps179
 go_wp2
 go_ret
 exact ⟨congrArg Ending.returned (congrArg (Value.int IntKind.i64) (by decide +kernel : (_ : Int) = 10)), rfl⟩
theorem zeros_1000 (w : World) : Calls Tryz.prog 174 #[.int .u64 1000] w fun e w' => e = .returned (.int .i64 54) ∧ w' = w := by
 go_enter Tryz.func174, Tryz.ntmps174
 go_wp2_with fail
 refine (len_1000 w).mono ?_
 rintro e w' ⟨rfl, rfl⟩
 go_wp2
 go_ret
 exact ⟨rfl, rfl⟩
theorem div_low (lo : Int) (w : World) (h0 : 0 ≤ lo) (h1 : lo < 18446744073709551616) : Calls Tryz.prog 164 #[.int .u64 0, .int .u64 lo, .int .u64 1000] w fun e w' => e = .returned (.tuple #[.int .u64 (lo / 1000), .int .u64 (lo % 1000)]) ∧ Drawn0 w w' := by
 go_enter Tryz.func164, Tryz.ntmps164
 go_wp2_with fail
 go_quiet (fail)
 go_wp2
 go_ret2
 exact ⟨by first | rfl | (simp; done), (Drawn0.refl w).step _⟩
theorem div_high (hi lo : Int) (w : World) (g0 : 0 < hi) (g1 : hi < 1000) (h0 : 0 ≤ lo) (h1 : lo < 18446744073709551616) : Calls Tryz.prog 164 #[.int .u64 hi, .int .u64 lo, .int .u64 1000] w fun e w' => e = .returned (.tuple #[.int .u64 ((hi * 18446744073709551616 + lo) / 1000), .int .u64 ((hi * 18446744073709551616 + lo) % 1000)]) ∧ Drawn0 w w' := by
 have z : (hi == 0) = false := by rw [beq_eq_false_iff_ne]; omega
 have ea : Go.bits .and .u64 18014398509481984000 4294967295 = 0 := and_zero _ (by omega) (by omega) (by omega)
 have eo := or_part hi lo (by omega) g1 h0 h1
 have eV : IntKind.u64.wrap (lo * 18014398509481984) = (lo % 1024) * 18014398509481984 := by rw [IntKind.wrap_u64]; omega
 have ev := and_zero ((lo % 1024) * 18014398509481984) (by omega) (by omega) (by omega)
 obtain ⟨U, hU⟩ : ∃ U, U = hi * 18014398509481984 + lo / 1024 := ⟨_, rfl⟩
 obtain ⟨V, hV⟩ : ∃ V, V = (lo % 1024) * 18014398509481984 := ⟨_, rfl⟩
 rw [← hU] at eo
 rw [← hV] at eV ev
 have U0 : 0 ≤ U := by omega
 have U1 : U < 18014398509481984000 := by omega
 have V0 : 0 ≤ V := by omega
 have V1 : V < 18446744073709551616 := by omega
 obtain ⟨u, hu⟩ : ∃ u, V / 4294967296 = u := ⟨_, rfl⟩
 have u0 : 0 ≤ u := by omega
 have u1 : u < 4294967296 := by omega
 obtain ⟨q1, hq⟩ : ∃ q1, U / 4194304000 = q1 := ⟨_, rfl⟩
 have q10 : 0 ≤ q1 := by omega
 have q11 : q1 < 4294967296 := by omega
 obtain ⟨r1, hr⟩ : ∃ r1, U - q1 * 4194304000 = r1 := ⟨_, rfl⟩
 have r10 : 0 ≤ r1 := by omega
 have r11 : r1 < 4194304000 := by omega
 obtain ⟨D, hD⟩ : ∃ D, D = r1 * 4294967296 + u := ⟨_, rfl⟩
 have D0 : 0 ≤ D := by omega
 have D1 : D < 18014398509481984000 := by omega
 obtain ⟨q0, hq0⟩ : ∃ q0, D / 4194304000 = q0 := ⟨_, rfl⟩
 have q00 : 0 ≤ q0 := by omega
 have q01 : q0 < 4294967296 := by omega
 obtain ⟨r0, hr0⟩ : ∃ r0, D - q0 * 4194304000 = r0 := ⟨_, rfl⟩
 have r00 : 0 ≤ r0 := by omega
 have r01 : r0 < 4194304000 := by omega
 have fin := long_div (hi * 18446744073709551616 + lo) U u q1 r1 q0 r0 (by omega) (by omega) r10 r11 (by omega) r00 r01
 have FIN := Sd.mk fin
 have w1 : IntKind.u64.wrap (U.tdiv 4194304000) = q1 := by rw [Int.tdiv_eq_ediv_of_nonneg U0, hq, IntKind.wrap_u64]; omega
 have w2 : IntKind.u64.wrap (q1 * 4194304000) = q1 * 4194304000 := by rw [IntKind.wrap_u64]; omega
 have w3 : IntKind.u64.wrap (U - q1 * 4194304000) = r1 := by rw [hr, IntKind.wrap_u64]; omega
 have w4 : IntKind.u64.wrap (D.tdiv 4194304000) = q0 := by rw [Int.tdiv_eq_ediv_of_nonneg D0, hq0, IntKind.wrap_u64]; omega
 have w5 : IntKind.u64.wrap (q0 * 4194304000) = q0 * 4194304000 := by rw [IntKind.wrap_u64]; omega
 have w6 : IntKind.u64.wrap (D - q0 * 4194304000) = r0 := by rw [hr0, IntKind.wrap_u64]; omega
 obtain ⟨x1, hx1⟩ : ∃ x1, IntKind.u64.wrap (U * 4294967296) = x1 := ⟨_, rfl⟩
 obtain ⟨x2, hx2⟩ : ∃ x2, IntKind.u64.wrap (x1 + u) = x2 := ⟨_, rfl⟩
 obtain ⟨x3, hx3⟩ : ∃ x3, IntKind.u64.wrap (q1 * 18014398509481984000) = x3 := ⟨_, rfl⟩
 have w7 : IntKind.u64.wrap (x2 - x3) = D := by
  rw [← hx2, ← hx1, ← hx3]; simp only [IntKind.wrap_u64]; omega
 obtain ⟨y1, hy1⟩ : ∃ y1, IntKind.u64.wrap (D * 4294967296) = y1 := ⟨_, rfl⟩
 have y10 : 0 ≤ y1 := by rw [← hy1, IntKind.wrap_u64]; omega
 have y11 : y1 < 18446744073709551616 := by rw [← hy1, IntKind.wrap_u64]; omega
 obtain ⟨y3, hy3⟩ : ∃ y3, IntKind.u64.wrap (q0 * 18014398509481984000) = y3 := ⟨_, rfl⟩
 have w8 : IntKind.u64.wrap (y1 - y3) = r0 * 4294967296 := by
  rw [← hy1, ← hy3]; simp only [IntKind.wrap_u64]; omega
 have w9 : r0 * 4294967296 / 18014398509481984 = r0 / 4194304 := by omega
 have wA : IntKind.u64.wrap (q1 * 4294967296) = q1 * 4294967296 := by rw [IntKind.wrap_u64]; omega
 have wB : IntKind.u64.wrap (q1 * 4294967296 + q0) = q1 * 4294967296 + q0 := by rw [IntKind.wrap_u64]; omega
 clear hU hV hq hr hD hq0 hr0 fin
 go_enter Tryz.func164, Tryz.ntmps164
 go_wp2_with fail
 refine (zeros_1000 w).mono ?_
 rintro e w' ⟨rfl, rfl⟩
 go_wp2_with fail
 go_loopg [15, 16] 0 (fun kq v15 v16 w1 => v15 = .int .u64 q1 ∧ v16 = .int .u64 r1 ∧ w1 = w')
 case atStart => exact ⟨rfl, rfl, rfl⟩
 case round =>
  obtain ⟨rfl, rfl, rfl⟩ := hrel
  go_wp2_with fail
  go_loopg [16, 18] 0 (fun kq v16 v18 w1 => v18 = .int .u64 q0 ∧ v16 = .int .u64 r0 ∧ w1 = wr)
  case atStart => exact ⟨rfl, rfl, rfl⟩
  case round =>
   obtain ⟨rfl, rfl, rfl⟩ := hrel
   go_wp2_with fail
   go_ret2
   exact ⟨by rw [← FIN.out.1, ← FIN.out.2]; rfl, Drawn0.refl _⟩
/-- Div64 by 1000, of what lies below 1000 times 2^64. -/
def bits_Div64.f (a0 a1 a2 : Int) : Option (Int × Int) := if a2 = 1000 then (if 0 ≤ a0 then (if a0 < 1000 then (if 0 ≤ a1 then (if a1 < 18446744073709551616 then some ((a0 * 18446744073709551616 + a1) / 1000, (a0 * 18446744073709551616 + a1) % 1000) else none) else none) else none) else none) else none
theorem bits_Div64.calls (a0 a1 a2 : Int) (r1 r2 : Int) (w : World) (h : bits_Div64.f a0 a1 a2 = some (r1, r2)) :
  Calls Tryz.prog 164 #[.int .u64 a0, .int .u64 a1, .int .u64 a2] w fun e w' => e = .returned (.tuple #[.int .u64 r1, .int .u64 r2]) ∧ Drawn0 w w' := by
 unfold bits_Div64.f at h
 by_cases e2 : a2 = 1000
 ·by_cases g0 : 0 ≤ a0
  ·by_cases g1 : a0 < 1000
   ·by_cases h0 : 0 ≤ a1
    ·by_cases h1 : a1 < 18446744073709551616
     ·rw [if_pos e2, if_pos g0, if_pos g1, if_pos h0, if_pos h1] at h
      simp only [Option.some.injEq, Prod.mk.injEq] at h
      obtain ⟨rfl, rfl⟩ := h
      subst e2
      by_cases hz : a0 = 0
      ·subst hz
       have := div_low a1 w h0 h1
       rwa [Int.zero_mul, Int.zero_add]
      ·exact div_high a0 a1 w (by omega) g1 h0 h1
     ·rw [if_pos e2, if_pos g0, if_pos g1, if_pos h0, if_neg h1] at h; cases h
    ·rw [if_pos e2, if_pos g0, if_pos g1, if_neg h0] at h; cases h
   ·rw [if_pos e2, if_pos g0, if_neg g1] at h; cases h
  ·rw [if_pos e2, if_neg g0] at h; cases h
 ·rw [if_neg e2] at h; cases h
end Go.Proofs.YtcmiehddjgfjaaaGreat.A
