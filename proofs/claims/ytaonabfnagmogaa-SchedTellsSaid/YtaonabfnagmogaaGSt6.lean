/- The stable sort whole. -/
import Derived.Test.YtaonabfnagmogaaGSt5
namespace Go.Proofs.Ytaonabfnagmogaa.St.GSt
open Go.Proofs Go.Shelf Go.RowKit Go.Lib Go.Sort Go.Proofs.Ytaonabfnagmogaa.Stable
set_option linter.unusedVariables false
set_option linter.unusedSimpArgs false
variable {P : Program} {α : Type} [Inhabited α]
set_option maxHeartbeats 4000000 in
set_option maxRecDepth 1000000 in
theorem stable_w (L : StLays P) (k : Nat) (aE : ∀ w, (isAgg 27).run P w = .ok true w) (zE : ∀ w, (Go.sizeOf 27).run P w = .ok k w) (enc : α → List Value) (cf : α → α → Int) (g : Nat) (cb : Array Value) (eg : ∀ args w, (callFunc g args).run P w = .ok (.enter g args) w)
    (blk off cap n : Nat) (d0 : Array α) (w0 : World)
    (R : RowK enc k w0 blk off d0) (hs : d0.size = n) (hC : CmpB P g cb enc k cf blk off n w0) (O : Stable.Ord (ltOf cf)) (hsz : n < 1152921504606846976) :
    Calls P 30 #[.slice (some ⟨blk, off, none⟩) n cap, .int .i64 n, .func (.func g) #[] cb] w0 fun e w' => e = .returned (.tuple #[]) ∧ ∃ d' : Array α, d'.toList = isort (ltOf cf) d0.toList ∧ d'.size = n ∧ SB enc k w0 blk off d' w' := by
  have mixed := L.mixed; have t3 := L.t3; have a3 := L.a3; have z3 := L.z3; have v3 := L.v3; have t4 := L.t4; have a4 := L.a4; have z4 := L.z4; have v4 := L.v4; have t22 := L.t22; have a22 := L.a22; have z22 := L.z22; have t45 := L.t45
  have FG := L.f30
  have e33 := L.e33
  have e34 := L.e34
  have hl : d0.toList.length = n := by rw [Array.length_toList]; exact hs
  have INS : Aside (∀ (a b : Nat) (d : Array α) (w : World) (pre seg post : List α), d.size = n → SB enc k w0 blk off d w → d.toList = pre ++ (seg ++ post) → pre.length = a → seg.length + a = b →
    Calls P 33 #[.slice (some ⟨blk, off, none⟩) n cap, .int .i64 a, .int .i64 b, .func (.func g) #[] cb] w fun e w' => e = .returned (.tuple #[]) ∧ ∃ d', d'.toList = pre ++ (isort (ltOf cf) seg ++ post) ∧ d'.size = n ∧ SB enc k w0 blk off d' w') :=
    fun a b d w pre seg post hn S T la lb => insertion_w L k aE zE enc cf g cb eg blk off cap a b n d0 d w0 w R hs hn hC O S (by omega) pre seg post T la lb
  have SYM : Aside (∀ (a m b : Nat) (d : Array α) (w : World) (pre U V post : List α), d.size = n → a < m → m < b → b ≤ n → SB enc k w0 blk off d w → Two (ltOf cf) a m b pre U V post d →
    Calls P 34 #[.slice (some ⟨blk, off, none⟩) n cap, .int .i64 a, .int .i64 m, .int .i64 b, .func (.func g) #[] cb] w fun e w' => e = .returned (.tuple #[]) ∧ ∃ d', d'.toList = pre ++ (merge (ltOf cf) U V ++ post) ∧ d'.size = n ∧ SB enc k w0 blk off d' w') :=
    fun a m b d w pre U V post hn h1 h2 h3 S T => by
      have := symMerge_w L k aE zE enc cf g cb eg blk off cap n d0 w0 R hs hC O (by omega) (b - a) a m b d w (Nat.le_refl _) hn h1 h2 h3 S pre U V post T
      rw [hn] at this
      exact this
  have S0 : Aside (SB enc k w0 blk off d0 w0) := SB.start R.hH
  have P0 : Aside (Pass0 (ltOf cf) 20 d0.toList 0 d0) := Pass0.start 20 d0
  have HO := aside O
  have HL := aside hl
  have HS0 := aside hs
  clear hC O R hs L hl eg
  go_enter FG, Try.ntmps30
  go_wp2_with fail
  go_loopg [7, 8] n (fun kx s7 s8 wr => ∃ (a : Nat) (d : Array α), s7 = .int .i64 a ∧ s8 = .int .i64 ((a + 20 : Nat) : Int) ∧ a ≤ n ∧ Aside (kx = n - a) ∧ Aside (d.size = n) ∧ Aside (SB enc k w0 blk off d wr) ∧ Aside (Pass0 (ltOf cf) 20 d0.toList a d))
  case atStart => exact ⟨0, d0, rfl, rfl, Nat.zero_le _, rfl, HS0, S0, P0⟩
  case round =>
    clear S0 P0 HS0
    obtain ⟨a, d, rfl, rfl, han, HK, HN, S1, HP⟩ := hrel
    by_cases hb : a + 20 ≤ n
    · obtain ⟨pre, seg, post, hd, hpre, hseg, hnext⟩ := HP.out.next (by rw [HL.out]; exact hb)
      have hc := INS.out a (a + 20) d wr pre seg post HN.out S1.out hd hpre (by omega)
      have HC2 := aside hc
      have HX := aside hnext
      clear hc hnext hd hseg hpre
      go_wp2_with (go_at_fn 33; refine HC2.out.mono ?_; rintro e1 w1 ⟨rfl, d1, hd1, hd2, hd3⟩)
      have Q1 := aside (HX.out d1 hd1)
      have Q2 := aside hd2
      have Q3 := aside hd3
      clear hd1 hd2 hd3
      go_roundg (n - (a + 20))
      case measure => have := HK.out; omega
      case rel => exact ⟨a + 20, d1, by go_num, by go_num, hb, rfl, Q2, Q3, Q1⟩
    · obtain ⟨pre, seg, hd, hpre, hseg, hnext⟩ := HP.out.last (by rw [HL.out]; exact hb)
      have hc := INS.out a n d wr pre seg [] HN.out S1.out hd hpre (by have := HL.out; omega)
      have HC2 := aside hc
      have HX := aside hnext
      clear hc hnext hd hseg hpre
      go_wp2_with (go_at_fn 33; refine HC2.out.mono ?_; rintro e1 w1 ⟨rfl, d1, hd1, hd2, hd3⟩)
      have Q1 : Aside (Blk (ltOf cf) 20 d0.toList d1.toList) := HX.out d1 hd1
      have Q2 := aside hd2
      have Q3 := aside hd3
      clear hd1 hd2 hd3 HX HC2 HP S1 HN HK
      go_loopg [6, 7, 8] (n - 20) (fun kx s6 s7 s8 wr2 => ∃ (s : Nat) (d : Array α), s6 = .int .i64 s ∧ 1 ≤ s ∧ s ≤ 2 * n + 20 ∧ Aside (kx = n - s) ∧ Aside (d.size = n) ∧ Aside (SB enc k w0 blk off d wr2) ∧ Aside (Blk (ltOf cf) s d0.toList d.toList))
      case atStart => exact ⟨20, d1, rfl, by omega, by omega, rfl, Q2, Q3, Q1⟩
      case round =>
        clear Q1 Q2 Q3
        obtain ⟨s, d, rfl, hs1, hs2, HK, HN, S1, HB⟩ := hrel
        by_cases hsn : s < n
        · have hsz' : (s : Int) < (n : Int) := by omega
          obtain ⟨wo, hwo⟩ : ∃ wo : World, wo = wr := ⟨_, rfl⟩
          subst hwo
          have P1 : Aside (Pass (ltOf cf) s d0.toList 0 d) := Pass.start HB.out
          go_wp2_with fail
          go_loopg [7, 8] n (fun kx s7 s8 wr2 => ∃ (a b : Nat) (d : Array α), s7 = .int .i64 a ∧ s8 = .int .i64 b ∧ a ≤ n ∧ b ≤ a + 2 * s ∧ a + 2 * s ≤ b ∧ Aside (kx = n - a) ∧ Aside (d.size = n) ∧ Aside (SB enc k w0 blk off d wr2) ∧ Aside (Pass (ltOf cf) s d0.toList a d))
          case atStart => exact ⟨0, 2 * s, d, rfl, by first | rfl | go_num | (congr 1; omega), Nat.zero_le _, by omega, by omega, rfl, HN, S1, P1⟩
          case round =>
            clear P1 HN S1 HB
            obtain ⟨a, b, d, rfl, rfl, han, hb1, hb2, HK2, HN, S1, HP⟩ := hrel
            obtain ⟨m, em, hm1, hm2⟩ : ∃ m : Nat, (a : Int) + (s : Int) = (m : Int) ∧ m ≤ a + s ∧ a + s ≤ m := ⟨a + s, by omega, by omega, by omega⟩
            obtain ⟨b2, eb2, hb3, hb4⟩ : ∃ b2 : Nat, (b : Int) + 2 * (s : Int) = (b2 : Int) ∧ b2 ≤ b + 2 * s ∧ b + 2 * s ≤ b2 := ⟨b + 2 * s, by omega, by omega, by omega⟩
            by_cases hb : b ≤ n
            · obtain ⟨pre, U, V, post, hT, hnext⟩ := HP.out.next HO.out (by rw [HL.out]; omega)
              rw [show a + s = m by omega, show a + 2 * s = b by omega] at hT
              rw [show a + 2 * s = b by omega] at hnext
              have hc := SYM.out a m b d wr pre U V post HN.out (by omega) (by omega) hb S1.out hT
              have HC2 := aside hc
              have HX := aside hnext
              clear hc hnext hT
              go_wp2_with (go_at_fn 34; refine HC2.out.mono ?_; rintro e1 w1 ⟨rfl, d1, hd1, hd2, hd3⟩)
              have Q1 := aside (HX.out d1 hd1)
              have Q2 := aside hd2
              have Q3 := aside hd3
              clear hd1 hd2 hd3
              go_roundg (n - b)
              case measure => have := HK2.out; omega
              case rel => exact ⟨b, b2, d1, rfl, rfl, hb, by omega, by omega, rfl, Q2, Q3, Q1⟩
            · by_cases hm : m < n
              · obtain ⟨pre, U, V, hT, hnext⟩ := HP.out.last HO.out (by rw [HL.out]; omega) (by rw [HL.out]; omega)
                rw [HL.out, show a + s = m by omega] at hT
                have hc := SYM.out a m n d wr pre U V [] HN.out (by omega) hm (Nat.le_refl _) S1.out hT
                have HC2 := aside hc
                have HX := aside hnext
                clear hc hnext hT
                go_wp2_with (go_at_fn 34; refine HC2.out.mono ?_; rintro e1 w1 ⟨rfl, d1, hd1, hd2, hd3⟩)
                have Q1 := aside (HX.out d1 hd1)
                have Q2 := aside hd2
                have Q3 := aside hd3
                clear hd1 hd2 hd3
                go_roundg (n - 2 * s)
                case measure => have := HK.out; omega
                case rel => exact ⟨2 * s, d1, by first | go_num | (congr 1; omega), by omega, by omega, rfl, Q2, Q3, Q1⟩
              · have Q1 := aside (HP.out.none (by rw [HL.out]; omega) (by rw [HL.out]; omega))
                go_wp2_with fail
                go_roundg (n - 2 * s)
                case measure => have := HK.out; omega
                case rel => exact ⟨2 * s, d, by first | go_num | (congr 1; omega), by omega, by omega, rfl, HN, S1, Q1⟩
        · go_wp2_with fail
          go_end0
          exact ⟨rfl, d, HB.out.whole (by rw [HL.out]; omega), HN.out, S1.out⟩
end Go.Proofs.Ytaonabfnagmogaa.St.GSt
