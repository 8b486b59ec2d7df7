/- The stable sort's functions: two sorted neighbours, the right one a single element, in one. -/
import Derived.Test.YtaonabfnagmogaaGSt2
namespace Go.Proofs.Ytaonabfnagmogaa.St.GSt
open Go.Proofs Go.Shelf Go.RowKit Go.Lib Go.Sort Go.Proofs.Ytaonabfnagmogaa.Stable
set_option linter.unusedVariables false
set_option linter.unusedSimpArgs false
variable {P : Program} {α : Type} [Inhabited α]
set_option maxHeartbeats 4000000 in
set_option maxRecDepth 1000000 in
theorem symRight_w (L : StLays P) (k : Nat) (aE : ∀ w, (isAgg 27).run P w = .ok true w) (zE : ∀ w, (Go.sizeOf 27).run P w = .ok k w) (enc : α → List Value) (cf : α → α → Int) (g : Nat) (cb : Array Value) (eg : ∀ args w, (callFunc g args).run P w = .ok (.enter g args) w)
    (blk off cap a m b : Nat) (d0 d : Array α) (w0 w : World)
    (R : RowK enc k w0 blk off d0) (hs : d0.size = d.size) (hC : CmpB P g cb enc k cf blk off d.size w0) (O : Stable.Ord (ltOf cf)) (S : SB enc k w0 blk off d w) (ham : a + 1 < m) (hm : b = m + 1) (hb : b ≤ d.size) (hsz : d.size < 4611686018427387904)
    (pre U V post : List α) (T : Two (ltOf cf) a m b pre U V post d) :
    Calls P 34 #[.slice (some ⟨blk, off, none⟩) d.size cap, .int .i64 a, .int .i64 m, .int .i64 b, .func (.func g) #[] cb] w fun e w' => e = .returned (.tuple #[]) ∧ ∃ d', d'.toList = pre ++ (merge (ltOf cf) U V ++ post) ∧ d'.size = d.size ∧ SB enc k w0 blk off d' w' := by
  have mixed := L.mixed; have t3 := L.t3; have a3 := L.a3; have z3 := L.z3; have v3 := L.v3; have t4 := L.t4; have a4 := L.a4; have z4 := L.z4; have v4 := L.v4; have t53 := L.t53; have a53 := L.a53; have z53 := L.z53; have t22 := L.t22; have a22 := L.a22; have z22 := L.z22; have t45 := L.t45
  have FG := L.f34
  have S0 : Aside (SB enc k w0 blk off d w) := S
  have HC : Aside (CmpB P g cb enc k cf blk off d.size w0) := hC
  have HT : Aside (Two (ltOf cf) a m b pre U V post d) := T
  have HO : Aside (Stable.Ord (ltOf cf)) := O
  have B0 : Aside (Bin (fun q => !ltOf cf d[m]! d[q]!) a m a m) := Bin.start (T.mono2 O) (by omega)
  have HM : Aside (b = m + 1) := hm
  have am : a < m := by omega
  have mb : m < b := by omega
  have tm : ((m : Int) - (a : Int) == 1) = false := by rw [beq_eq_false_iff_ne]; omega
  have tm2 : ((b : Int) - (m : Int) == 1) = true := by rw [beq_iff_eq]; omega
  have RR : Aside (RowK enc k w0 blk off d0) := R
  have HS : Aside (d0.size = d.size) := hs
  clear S hC T O hm L hs R
  go_enter FG, Try.ntmps34
  go_wp2_with fail
  go_loopg [14, 15] m (fun kx s10 s11 wr => ∃ (i j : Nat), s10 = .int .i64 i ∧ s11 = .int .i64 j ∧ a ≤ i ∧ i ≤ j ∧ j ≤ m ∧ Aside (kx = j - i + a) ∧ Aside (SB enc k w0 blk off d wr) ∧ Aside (Bin (fun q => !ltOf cf d[m]! d[q]!) a m i j))
  case atStart => exact ⟨a, m, rfl, rfl, Nat.le_refl _, by omega, Nat.le_refl _, (show _ = _ by omega), S0, B0⟩
  case round =>
    clear S0 B0
    obtain ⟨i, j, rfl, rfl, hmi, hij, hjb, HK, S1, HB⟩ := hrel
    by_cases hlt : i < j
    · have hltz : (i : Int) < (j : Int) := by omega
      obtain ⟨h, hh, hih, hhj⟩ := half_nat i j (by omega) hlt
      have pH : (0 : Int) ≤ (h : Int) := by omega
      have bH : (h : Int) < (d.size : Int) := by omega
      have bA : (m : Int) < (d.size : Int) := by omega
      have lh : ∀ p : SBW enc k w0 blk off d, Sem.run P (loadCellsFrom ⟨blk, off + h * k, none⟩ 0 k #[]) p.w = .ok (enc d[h]!).toArray p.w := fun p => p.h.load RR.out HS.out.symm P h (by omega)
      have la : ∀ p : SBW enc k w0 blk off d, Sem.run P (loadCellsFrom ⟨blk, off + m * k, none⟩ 0 k #[]) p.w = .ok (enc d[m]!).toArray p.w := fun p => p.h.load RR.out HS.out.symm P m (by omega)
      have hcg : ∀ p : SBW enc k w0 blk off d, Calls P g (#[.agg (enc d[m]!).toArray, .agg (enc d[h]!).toArray] ++ cb) p.w fun e w' => e = .returned (.int .i64 (cf d[m]! d[h]!)) ∧ ∃ q : SBW enc k w0 blk off d, w' = q.w := fun p => HC.out.at p rfl _ _
      have HR : Aside (∀ v, ltOf cf d[m]! d[h]! = v → (if v = true then Bin (fun q => !ltOf cf d[m]! d[q]!) a m i h else Bin (fun q => !ltOf cf d[m]! d[q]!) a m (h + 1) j)) := fun v hv => by
        cases v with
        | true => exact HB.out.left hih hhj (by simp [hv])
        | false => exact HB.out.right hih hhj (by simp [hv])
      obtain ⟨x, hx⟩ : ∃ x, d[h]! = x := ⟨_, rfl⟩
      obtain ⟨y, hy⟩ : ∃ y, d[m]! = y := ⟨_, rfl⟩
      rw [hx] at lh hcg
      rw [hy] at la hcg
      have HX : Aside (d[h]! = x) := hx
      have HY : Aside (d[m]! = y) := hy
      clear hx hy
      by_cases hlv : cf y x < 0
      · have HL : Aside (ltOf cf d[m]! d[h]! = true) := by show _ = _; rw [HY.out, HX.out]; exact decide_eq_true hlv
        go_wp2_with fail
        haveI : Inhabited (SBW enc k w0 blk off d) := ⟨⟨_, S1.out⟩⟩
        refine wp_region_sb S1.out (by assumption) (by kernel_rfl) ?_
        repeat (quiet_step ((go_at_fn g; exact hcg _)))
        refine wpQuiet_nil ?_
        intro _ hw'
        obtain ⟨p, rfl⟩ := hw'
        go_wp2_with fail
        go_roundg (h - i + a)
        case measure => have := HK.out; omega
        case rel => exact ⟨i, h, rfl, rfl, hmi, by omega, by omega, rfl, p.h, HR.out true HL.out⟩
      · have HL : Aside (ltOf cf d[m]! d[h]! = false) := by show _ = _; rw [HY.out, HX.out]; exact decide_eq_false hlv
        have hdn : decide (cf y x < 0) = false := decide_eq_false hlv
        go_wp2_with fail
        haveI : Inhabited (SBW enc k w0 blk off d) := ⟨⟨_, S1.out⟩⟩
        refine wp_region_sb S1.out (by assumption) (by kernel_rfl) ?_
        repeat (quiet_step ((go_at_fn g; exact hcg _)))
        refine wpQuiet_nil ?_
        intro _ hw'
        obtain ⟨p, rfl⟩ := hw'
        go_wp2_with fail
        go_roundg (j - (h + 1) + a)
        case measure => have := HK.out; omega
        case rel => exact ⟨h + 1, j, by go_num, rfl, by omega, by omega, hjb, rfl, p.h, HR.out false HL.out⟩
    · have hi : j = i := by omega
      subst hi
      have HD : Aside (MvL (pre ++ (merge (ltOf cf) U V ++ post)) j m d) := HT.out.one_right HO.out HM.out HB.out
      clear HB HK
      go_wp2_with fail
      go_loopg [17] (m - j) (fun kx s17 wr2 => ∃ (q : Nat) (dk : Array α), s17 = .int .i64 q ∧ q ≤ m ∧ j ≤ q ∧ Aside (kx = q - j) ∧ dk.size = d.size ∧ Aside (SB enc k w0 blk off dk wr2) ∧ Aside (MvL (pre ++ (merge (ltOf cf) U V ++ post)) j q dk))
      case atStart => exact ⟨m, d, rfl, Nat.le_refl _, by omega, rfl, rfl, S1, HD⟩
      case round =>
        clear S1 HD
        obtain ⟨q, dk, rfl, haq, hqj, HK, hds, S1, HD⟩ := hrel
        by_cases hq : j < q
        · obtain ⟨q, rfl⟩ : ∃ r, q = r + 1 := ⟨q - 1, by omega⟩
          have hqz : (j : Int) < (q : Int) + 1 := by omega
          have e0 : ((q : Int) + 1).toNat = q + 1 := by omega
          have p0 : (0 : Int) ≤ (q : Int) + 1 := by omega
          have b0 : (q : Int) + 1 < (d.size : Int) := by omega
          have b1 : (q : Int) < (d.size : Int) := by omega
          have hwp : IntKind.i64.wrap (q : Int) = (q : Int) := by rw [IntKind.wrap_i64]; omega
          go_wp2_with fail
          have S2 : Aside (SB enc k w0 blk off (swp dk (q + 1) q) ((wr.drew.setCells blk (off + (q + 1) * k) (enc dk[q]!)).setCells blk (off + q * k) (enc dk[q + 1]!))) := S1.out.swapped RR.out (q + 1) q (by omega) (by omega)
          have la := S1.out.ld1 RR.out (by have := HS.out; omega) P (q + 1) (by omega)
          have lb := S1.out.ld1 RR.out (by have := HS.out; omega) P q (by omega)
          have sa := S1.out.st1 RR.out (by have := HS.out; omega) P (q + 1) (by omega) dk[q]!
          have sb := S1.out.st2 RR.out (by have := HS.out; omega) P (q + 1) q (by omega) (by omega) dk[q]! dk[q + 1]!
          have na : (enc dk[q + 1]!).length = k := RR.out.hk _
          have nb : (enc dk[q]!).length = k := RR.out.hk _
          generalize enc dk[q + 1]! = cI at S2 la sb na
          generalize enc dk[q]! = cJ at S2 lb sa sb nb
          clear S1
          go_big_region_o
          clear la lb sa sb
          generalize (wr.drew.setCells blk (off + (q + 1) * k) cJ).setCells blk (off + q * k) cI = w2 at S2 ⊢
          go_wp2
          go_roundg (q - j)
          case measure => have := HK.out; omega
          case rel => exact ⟨q, swp dk (q + 1) q, by go_num, by omega, by omega, rfl, by rw [size_swp]; exact hds, S2, HD.out.step hq⟩
        · have hqz : ¬ (j : Int) < (q : Int) := by omega
          go_wp2
          refine bodyPost_ret (results_none rfl _ _ _) rfl ?_
          exact ⟨rfl, dk, HD.out.done hq, hds, S1.out⟩
end Go.Proofs.Ytaonabfnagmogaa.St.GSt
