/- The stable sort's functions: two sorted neighbours in one. -/
import Derived.Test.YtaonabfnagmogaaGSt3
import Derived.Deep.Cut
import Derived.Deep.DeepCutAuto
namespace Go.Proofs.Ytaonabfnagmogaa.St.GSt
open Go.Proofs Go.Shelf Go.RowKit Go.Lib Go.Sort Go.Proofs.Ytaonabfnagmogaa.Stable
set_option linter.unusedVariables false
set_option linter.unusedSimpArgs false
variable {P : Program} {α : Type} [Inhabited α]
theorem mid_way (a m b : Nat) (am : a < m) (mb : m < b) : ∃ mid lo hi : Nat, ((a : Int) + (b : Int)) / 2 = (mid : Int) ∧ Mid a m b mid lo hi ∧ ((mid < m ∧ (mid : Int) + (m : Int) - (b : Int) = (lo : Int) ∧ hi = mid) ∨ (¬ mid < m ∧ lo = a ∧ hi = m)) := by
  by_cases h : (a + b) / 2 < m
  · exact ⟨(a + b) / 2, (a + b) / 2 + m - b, (a + b) / 2, by omega, ⟨am, mb, rfl, .inl ⟨h, by omega, rfl⟩⟩, .inl ⟨h, by omega, rfl⟩⟩
  · exact ⟨(a + b) / 2, a, m, by omega, ⟨am, mb, rfl, .inr ⟨by omega, rfl, rfl⟩⟩, .inr ⟨h, rfl, rfl⟩⟩
/-- What a call of symMerge does. -/
def SymDoes (P : Program) (enc : α → List Value) (k : Nat) (lt : α → α → Bool) (g : Nat) (cb : Array Value) (blk off cap a m b : Nat) (d : Array α) (w0 w : World) : Prop :=
  ∀ pre U V post : List α, Two lt a m b pre U V post d → Calls P 34 #[.slice (some ⟨blk, off, none⟩) d.size cap, .int .i64 a, .int .i64 m, .int .i64 b, .func (.func g) #[] cb] w fun e w' => e = .returned (.tuple #[]) ∧ ∃ d', d'.toList = pre ++ (merge lt U V ++ post) ∧ d'.size = d.size ∧ SB enc k w0 blk off d' w'
set_option maxHeartbeats 4000000 in
set_option maxRecDepth 1000000 in
theorem symMid_w (L : StLays P) (k : Nat) (aE : ∀ w, (isAgg 27).run P w = .ok true w) (zE : ∀ w, (Go.sizeOf 27).run P w = .ok k w) (enc : α → List Value) (cf : α → α → Int) (g : Nat) (cb : Array Value) (eg : ∀ args w, (callFunc g args).run P w = .ok (.enter g args) w)
    (blk off cap a m b : Nat) (d0 d : Array α) (w0 w : World)
    (R : RowK enc k w0 blk off d0) (hs : d0.size = d.size) (hC : CmpB P g cb enc k cf blk off d.size w0) (O : Stable.Ord (ltOf cf)) (S : SB enc k w0 blk off d w) (ham : a + 1 < m) (hmb : m + 1 < b) (hb : b ≤ d.size) (hsz : d.size < 4611686018427387904)
    (pre U V post : List α) (T : Two (ltOf cf) a m b pre U V post d)
    (IH : ∀ (a' m' b' : Nat) (d' : Array α) (w' : World), b' - a' < b - a → d'.size = d.size → a' < m' → m' < b' → b' ≤ d.size → SB enc k w0 blk off d' w' → SymDoes P enc k (ltOf cf) g cb blk off cap a' m' b' d' w0 w') :
    Calls P 34 #[.slice (some ⟨blk, off, none⟩) d.size cap, .int .i64 a, .int .i64 m, .int .i64 b, .func (.func g) #[] cb] w fun e w' => e = .returned (.tuple #[]) ∧ ∃ d', d'.toList = pre ++ (merge (ltOf cf) U V ++ post) ∧ d'.size = d.size ∧ SB enc k w0 blk off d' w' := by
  obtain ⟨mid, lo, hi, hmid, M, way⟩ := mid_way a m b (by omega) (by omega)
  obtain ⟨f1, f2, f3, f4, f5, f6, f7⟩ := M.facts
  have B0 : Aside (Bin (fun c => !ltOf cf d[mid + m - 1 - c]! d[c]!) lo hi lo hi) := Bin.start (T.mono3 O f1 f3 f7) f2
  have F7 := aside (f7)
  have mixed := L.mixed; have t3 := L.t3; have a3 := L.a3; have z3 := L.z3; have v3 := L.v3; have t4 := L.t4; have a4 := L.a4; have z4 := L.z4; have v4 := L.v4; have t53 := L.t53; have a53 := L.a53; have z53 := L.z53; have t22 := L.t22; have a22 := L.a22; have z22 := L.z22; have t45 := L.t45
  have FG := L.f34
  have e34 := L.e34
  have e36 := L.e36
  have S0 : Aside (SB enc k w0 blk off d w) := S
  have HC : Aside (CmpB P g cb enc k cf blk off d.size w0) := hC
  have HT : Aside (Two (ltOf cf) a m b pre U V post d) := T
  have HO : Aside (Stable.Ord (ltOf cf)) := O
  have HM : Aside (Mid a m b mid lo hi) := M
  have HI := aside (IH)
  have tm : ((m : Int) - (a : Int) == 1) = false := by rw [beq_eq_false_iff_ne]; omega
  have tm2 : ((b : Int) - (m : Int) == 1) = false := by rw [beq_eq_false_iff_ne]; omega
  have RR : Aside (RowK enc k w0 blk off d0) := R
  have HS : Aside (d0.size = d.size) := hs
  have LL : Aside (StLays P) := L
  clear S hC T O M L hs R IH f7
  go_enter FG, Try.ntmps34
  have WAY := aside (way)
  have pp : ∃ pp : Nat, (mid : Int) + (m : Int) - 1 = (pp : Int) ∧ pp = mid + m - 1 := ⟨mid + m - 1, by omega, rfl⟩
  obtain ⟨pp, epp, hpp⟩ := pp
  have HPP := aside (hpp)
  have hpl : pp < d.size + d.size := by omega
  clear way hpp
  go_upto_if 140 with fail
  go_cut [20, 21] from 138 to 146 (fun s20 s21 wx => s20 = .int .i64 lo ∧ s21 = .int .i64 hi ∧ wx = w)
  case first =>
    rcases WAY.out with ⟨w1, eLo, rfl⟩ | ⟨w1, rfl, rfl⟩
    · go_wp2_with fail
      go_meet
      exact ⟨rfl, rfl, rfl⟩
    · go_wp2_with fail
      go_meet
      exact ⟨rfl, rfl, rfl⟩
  case rest =>
    obtain ⟨rfl, rfl, rfl⟩ := hcut
    clear WAY
    go_wp2_with fail
    go_loopg [20, 21] (hi - lo) (fun kx s20 s21 wr => ∃ (i j : Nat), s20 = .int .i64 i ∧ s21 = .int .i64 j ∧ lo ≤ i ∧ i ≤ j ∧ j ≤ hi ∧ Aside (kx = j - i) ∧ Aside (SB enc k w0 blk off d wr) ∧ Aside (Bin (fun c => !ltOf cf d[mid + m - 1 - c]! d[c]!) lo hi i j))
    case atStart => exact ⟨lo, hi, rfl, rfl, Nat.le_refl _, f2, Nat.le_refl _, rfl, S0, B0⟩
    case round =>
      clear S0 B0
      obtain ⟨i, j, rfl, rfl, hmi, hij, hjb, HK, S1, HB⟩ := hrel
      by_cases hlt : i < j
      · have hltz : (i : Int) < (j : Int) := by omega
        obtain ⟨c, hh, hih, hhj⟩ := half_nat i j (by omega) hlt
        obtain ⟨g1, g2, g3⟩ := F7.out c (by omega) (by omega)
        have q1 : c ≤ pp := by have := HPP.out; omega
        have q2 : pp - c < b := by have := HPP.out; omega
        have q3 : mid + m - 1 - c = pp - c := by have := HPP.out; omega
        have Q3 := aside (q3)
        clear g1 g2 g3 q3
        have e0 : ((pp : Int) - (c : Int)).toNat = pp - c := by omega
        have p0 : (0 : Int) ≤ (pp : Int) - (c : Int) := by omega
        have rP : IntKind.i64.wrap ((pp : Int) - (c : Int)) = (pp : Int) - (c : Int) := by rw [IntKind.wrap_i64]; omega
        have b0 : (pp : Int) - (c : Int) < (d.size : Int) := by omega
        have pH : (0 : Int) ≤ (c : Int) := by omega
        have bH : (c : Int) < (d.size : Int) := by omega
        have lh : ∀ p : SBW enc k w0 blk off d, Sem.run P (loadCellsFrom ⟨blk, off + (pp - c) * k, none⟩ 0 k #[]) p.w = .ok (enc d[pp - c]!).toArray p.w := fun p => p.h.load RR.out HS.out.symm P (pp - c) (by omega)
        have la : ∀ p : SBW enc k w0 blk off d, Sem.run P (loadCellsFrom ⟨blk, off + c * k, none⟩ 0 k #[]) p.w = .ok (enc d[c]!).toArray p.w := fun p => p.h.load RR.out HS.out.symm P c (by omega)
        have hcg : ∀ p : SBW enc k w0 blk off d, Calls P g (#[.agg (enc d[pp - c]!).toArray, .agg (enc d[c]!).toArray] ++ cb) p.w fun e w' => e = .returned (.int .i64 (cf d[pp - c]! d[c]!)) ∧ ∃ q : SBW enc k w0 blk off d, w' = q.w := fun p => HC.out.at p rfl _ _
        have HR : Aside (∀ v, ltOf cf d[pp - c]! d[c]! = v → (if v = true then Bin (fun c => !ltOf cf d[mid + m - 1 - c]! d[c]!) lo hi i c else Bin (fun c => !ltOf cf d[mid + m - 1 - c]! d[c]!) lo hi (c + 1) j)) := fun v hv => by
          cases v with
          | true => exact HB.out.left hih hhj (by simp only [Q3.out]; simp [hv])
          | false => exact HB.out.right hih hhj (by simp only [Q3.out]; simp [hv])
        obtain ⟨x, hx⟩ : ∃ x, d[pp - c]! = x := ⟨_, rfl⟩
        obtain ⟨y, hy⟩ : ∃ y, d[c]! = y := ⟨_, rfl⟩
        rw [hx] at lh hcg
        rw [hy] at la hcg
        have HX : Aside (d[pp - c]! = x) := hx
        have HY : Aside (d[c]! = y) := hy
        clear hx hy
        by_cases hlv : cf x y < 0
        · have HL : Aside (ltOf cf d[pp - c]! d[c]! = true) := by show _ = _; rw [HX.out, HY.out]; exact decide_eq_true hlv
          go_wp2_with fail
          haveI : Inhabited (SBW enc k w0 blk off d) := ⟨⟨_, S1.out⟩⟩
          refine wp_region_sb S1.out (by assumption) (by kernel_rfl) ?_
          repeat (quiet_step ((go_at_fn g; exact hcg _)))
          refine wpQuiet_nil ?_
          intro _ hw'
          obtain ⟨p, rfl⟩ := hw'
          go_wp2_with fail
          go_roundg (c - i)
          case measure => have := HK.out; omega
          case rel => exact ⟨i, c, rfl, rfl, hmi, by omega, by omega, rfl, p.h, HR.out true HL.out⟩
        · have HL : Aside (ltOf cf d[pp - c]! d[c]! = false) := by show _ = _; rw [HX.out, HY.out]; exact decide_eq_false hlv
          have hdn : decide (cf x y < 0) = false := decide_eq_false hlv
          go_wp2_with fail
          haveI : Inhabited (SBW enc k w0 blk off d) := ⟨⟨_, S1.out⟩⟩
          refine wp_region_sb S1.out (by assumption) (by kernel_rfl) ?_
          repeat (quiet_step ((go_at_fn g; exact hcg _)))
          refine wpQuiet_nil ?_
          intro _ hw'
          obtain ⟨p, rfl⟩ := hw'
          go_wp2_with fail
          go_roundg (j - (c + 1))
          case measure => have := HK.out; omega
          case rel => exact ⟨c + 1, j, by go_num, rfl, by omega, by omega, hjb, rfl, p.h, HR.out false HL.out⟩
      · have hi' : j = i := by omega
        subst hi'
        have hP : Parts (ltOf cf) a m b mid j (mid + m - j) U V := HT.out.parts HO.out HM.out HB.out
        have HP : Aside (Parts (ltOf cf) a m b mid j (mid + m - j) U V) := hP
        have eE : ∃ e : Nat, (mid : Int) + (m : Int) - (j : Int) = (e : Int) ∧ mid + m - j = e := ⟨mid + m - j, by omega, rfl⟩
        obtain ⟨e, eE, he⟩ := eE
        rw [he] at hP HP
        have k1 := hP.sa; have k2 := hP.sm; have k3 := hP.smid; have k4 := hP.me; have k5 := hP.eb; have k6 := hP.mide
        clear HB HK he hP F7
        go_upto_region 39 with fail
        go_cut [185] from 178 to 184 (fun s wx => s = .bool (decide (j < m) && decide (m < e)) ∧ wx = wr)
        case first =>
          by_cases h1 : j < m
          · go_wp2_with fail
            go_meet
            exact ⟨by simp [h1], rfl⟩
          · go_wp2_with fail
            go_meet
            exact ⟨by simp [h1], rfl⟩
        case rest =>
          obtain ⟨rfl, rfl⟩ := hcut
          go_upto_if 185 with fail
          go_cut [] from 185 to 191 (fun wx => ∃ d1 : Array α, Aside (St1 U V pre post a m j e d.size d1) ∧ Aside (SB enc k w0 blk off d1 wx))
          case first =>
            by_cases h1 : j < m
            · by_cases h2 : m < e
              · have hc := rotate_w LL.out k aE zE enc g cb blk off cap j m e d0 d w0 _ RR.out HS.out S1.out h1 h2 (by omega) hsz _ (HP.out.left HT.out.la HT.out.list)
                have HC2 := aside (hc)
                clear hc
                go_wp2_with (go_at_fn 36; refine HC2.out.mono ?_; rintro e1 w1 ⟨rfl, d1, hd1, hd2, hd3⟩)
                go_meet
                exact ⟨d1, ⟨hd1, hd2⟩, hd3⟩
              · go_wp2_with fail
                go_meet
                exact ⟨d, HP.out.st1_none HT.out.list rfl (fun h => h2 h.2), S1⟩
            · go_wp2_with fail
              go_meet
              exact ⟨d, HP.out.st1_none HT.out.list rfl (fun h => h1 h.1), S1⟩
          case rest =>
            clear S1
            obtain ⟨d1, HD1, S1⟩ := hcut
            go_upto_region 41 with fail
            go_cut [199] from 192 to 198 (fun s wx => s = .bool (decide (a < j) && decide (j < mid)) ∧ wx = wc)
            case first =>
              by_cases h1 : a < j
              · go_wp2_with fail
                go_meet
                exact ⟨by simp [h1], rfl⟩
              · go_wp2_with fail
                go_meet
                exact ⟨by simp [h1], rfl⟩
            case rest =>
              obtain ⟨rfl, rfl⟩ := hcut
              go_upto_if 199 with fail
              go_cut [] from 199 to 205 (fun wx => ∃ d2 : Array α, Aside (St2 (ltOf cf) U V pre post a m j e d.size d2) ∧ Aside (SB enc k w0 blk off d2 wx))
              case first =>
                by_cases h1 : a < j
                · by_cases h2 : j < mid
                  · have hc := HI.out a j mid d1 _ (by omega) HD1.out.2 h1 h2 (by omega) S1.out _ _ _ _ (HD1.out.two HP.out HT.out.la)
                    rw [HD1.out.2] at hc
                    have HC2 := aside (hc)
                    clear hc
                    go_wp2_with (go_at_fn 34; refine HC2.out.mono ?_; rintro e1 w1 ⟨rfl, d2, hd1, hd2, hd3⟩)
                    go_meet
                    exact ⟨d2, St2.of hd1 hd2, hd3⟩
                  · go_wp2_with fail
                    go_meet
                    exact ⟨d1, HD1.out.none HP.out (fun h => h2 h.2), S1⟩
                · go_wp2_with fail
                  go_meet
                  exact ⟨d1, HD1.out.none HP.out (fun h => h1 h.1), S1⟩
              case rest =>
                clear S1 HD1
                obtain ⟨d2, HD2, S2⟩ := hcut
                by_cases h1 : mid < e
                · by_cases h2 : e < b
                  · have hc := HI.out mid e b d2 _ (by omega) HD2.out.2 h1 h2 (by omega) S2.out _ _ _ _ (HD2.out.two HP.out HT.out.la)
                    rw [HD2.out.2] at hc
                    have HC2 := aside (hc)
                    clear hc
                    go_wp2_with (go_at_fn 34; refine HC2.out.mono ?_; rintro e1 w1 ⟨rfl, d3, hd1, hd2, hd3⟩)
                    go_end0
                    have h3 := St3.of (post := post) (n := d.size) HP.out hd1 hd2
                    exact ⟨rfl, d3, h3.1, h3.2, hd3⟩
                  · go_wp2_with fail
                    go_end0
                    have h3 := HD2.out.none HP.out (fun h => h2 h.2)
                    exact ⟨rfl, d2, h3.1, h3.2, S2.out⟩
                · go_wp2_with fail
                  go_end0
                  have h3 := HD2.out.none HP.out (fun h => h1 h.1)
                  exact ⟨rfl, d2, h3.1, h3.2, S2.out⟩
/-- Two sorted neighbours in one. -/
theorem symMerge_w (L : StLays P) (k : Nat) (aE : ∀ w, (isAgg 27).run P w = .ok true w) (zE : ∀ w, (Go.sizeOf 27).run P w = .ok k w) (enc : α → List Value) (cf : α → α → Int) (g : Nat) (cb : Array Value) (eg : ∀ args w, (callFunc g args).run P w = .ok (.enter g args) w)
    (blk off cap n : Nat) (d0 : Array α) (w0 : World) (R : RowK enc k w0 blk off d0) (hs : d0.size = n) (hC : CmpB P g cb enc k cf blk off n w0) (O : Stable.Ord (ltOf cf)) (hsz : n < 4611686018427387904) :
    ∀ (q a m b : Nat) (d : Array α) (w : World), b - a ≤ q → d.size = n → a < m → m < b → b ≤ n → SB enc k w0 blk off d w → SymDoes P enc k (ltOf cf) g cb blk off cap a m b d w0 w
  | 0, a, m, b, d, w, hq, _, h1, h2, _, _ => by omega
  | q + 1, a, m, b, d, w, hq, hd, h1, h2, hb, S => by
    subst hd
    intro pre U V post T
    by_cases c1 : m = a + 1
    · exact symLeft_w L k aE zE enc cf g cb eg blk off cap a m b d0 d w0 w R hs hC O S c1 h2 hb hsz pre U V post T
    · by_cases c2 : b = m + 1
      · exact symRight_w L k aE zE enc cf g cb eg blk off cap a m b d0 d w0 w R hs hC O S (by omega) c2 hb hsz pre U V post T
      · exact symMid_w L k aE zE enc cf g cb eg blk off cap a m b d0 d w0 w R hs hC O S (by omega) (by omega) hb hsz pre U V post T
          (fun a' m' b' d' w' hlt hd' x1 x2 x3 S' => symMerge_w L k aE zE enc cf g cb eg blk off cap _ d0 w0 R hs hC O hsz q a' m' b' d' w' (by omega) hd' x1 x2 (by omega) S')
end Go.Proofs.Ytaonabfnagmogaa.St.GSt
