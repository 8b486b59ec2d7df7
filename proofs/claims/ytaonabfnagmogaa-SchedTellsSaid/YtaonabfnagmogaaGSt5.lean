/- The stable sort's functions: insertion sort of a range. -/
import Derived.Test.YtaonabfnagmogaaGSt4
namespace Go.Proofs.Ytaonabfnagmogaa.St.GSt
open Go.Proofs Go.Shelf Go.RowKit Go.Lib Go.Sort Go.Proofs.Ytaonabfnagmogaa.Stable
set_option linter.unusedVariables false
set_option linter.unusedSimpArgs false
variable {P : Program} {α : Type} [Inhabited α]
set_option maxHeartbeats 4000000 in
set_option maxRecDepth 1000000 in
theorem insertion_w (L : StLays P) (k : Nat) (aE : ∀ w, (isAgg 27).run P w = .ok true w) (zE : ∀ w, (Go.sizeOf 27).run P w = .ok k w) (enc : α → List Value) (cf : α → α → Int) (g : Nat) (cb : Array Value) (eg : ∀ args w, (callFunc g args).run P w = .ok (.enter g args) w)
    (blk off cap a b n : Nat) (d0 d : Array α) (w0 w : World)
    (R : RowK enc k w0 blk off d0) (hs : d0.size = n) (hn : d.size = n) (hC : CmpB P g cb enc k cf blk off n w0) (O : Stable.Ord (ltOf cf)) (S : SB enc k w0 blk off d w) (hsz : n < 4611686018427387904)
    (pre seg post : List α) (T : d.toList = pre ++ (seg ++ post)) (la : pre.length = a) (lb : seg.length + a = b) :
    Calls P 33 #[.slice (some ⟨blk, off, none⟩) n cap, .int .i64 a, .int .i64 b, .func (.func g) #[] cb] w fun e w' => e = .returned (.tuple #[]) ∧ ∃ d', d'.toList = pre ++ (isort (ltOf cf) seg ++ post) ∧ d'.size = n ∧ SB enc k w0 blk off d' w' := by
  have hbn : b ≤ n := by
    have h1 : d.toList.length = n := by rw [Array.length_toList]; exact hn
    rw [T] at h1; simp at h1; omega
  have mixed := L.mixed; have t3 := L.t3; have a3 := L.a3; have z3 := L.z3; have v3 := L.v3; have t4 := L.t4; have a4 := L.a4; have z4 := L.z4; have v4 := L.v4; have t22 := L.t22; have a22 := L.a22; have z22 := L.z22; have t45 := L.t45
  have FG := L.f33
  have HC : Aside (CmpB P g cb enc k cf blk off n w0) := hC
  have HO : Aside (Stable.Ord (ltOf cf)) := O
  have RR : Aside (RowK enc k w0 blk off d0) := R
  have HS : Aside (d0.size = n) := hs
  have S0 : Aside (SB enc k w0 blk off d w) := S
  have T0 : Aside (Outer (ltOf cf) pre seg post a (a + 1) d) := Outer.start T
  have LA : Aside (pre.length = a) := la
  have LB : Aside (seg.length + a = b) := lb
  have hab : a ≤ b := by omega
  have HN : Aside (d.size = n) := hn
  clear hC O R hs S T la lb L hn
  go_enter FG, Try.ntmps33
  go_wp2_with fail
  go_loopg [8] (b - a) (fun g1 vi wr => ∃ (i : Nat) (dk : Array α), vi = .int .i64 i ∧ a < i ∧ i ≤ b + 1 ∧ b + 1 - i ≤ g1 + 1 ∧ Aside (dk.size = n) ∧ Aside (SB enc k w0 blk off dk wr) ∧ Aside (Outer (ltOf cf) pre seg post a i dk))
  case atStart => exact ⟨a + 1, d, by go_num, by omega, by omega, by omega, HN, S0, T0⟩
  case round =>
    clear S0 T0 HN
    obtain ⟨i, dk, rfl, hai, hib, hg1, HN, S1, HT⟩ := hrel
    by_cases hlt : i < b
    · have hltz : (i : Int) < (b : Int) := by omega
      obtain ⟨xi, hIns, hOut⟩ := HT.out.next hai (by have := LB.out; omega)
      have HI := aside hIns
      have HOU := aside hOut
      clear hIns hOut HT
      obtain ⟨wo, hwo⟩ : ∃ wo : World, wo = wr := ⟨_, rfl⟩
      subst hwo
      go_wp2_with fail
      go_loopg [9] i (fun g2 vj wr2 => ∃ (j : Nat) (dj : Array α), vj = .int .i64 j ∧ a ≤ j ∧ j ≤ i ∧ j ≤ g2 ∧ Aside (dj.size = n) ∧ Aside (SB enc k w0 blk off dj wr2) ∧ Aside (Ins (ltOf cf) pre (isort (ltOf cf) (seg.take (i - a))) (seg.drop (i + 1 - a) ++ post) xi a j dj))
      case atStart => exact ⟨i, dk, rfl, by omega, Nat.le_refl _, Nat.le_refl _, HN, S1, HI⟩
      case round =>
        clear HN S1 HI
        obtain ⟨j, dj, rfl, haj, hji, hg2, HN, S1, HI⟩ := hrel
        have out : (j ≤ a ∨ ltOf cf dj[j]! dj[j - 1]! = false) → Outer (ltOf cf) pre seg post a (i + 1) dj := fun hst => HOU.out dj (HI.out.done HO.out LA.out (isort_sorted HO.out _) hst)
        have OUT := aside out
        clear out
        by_cases hja : a < j
        · have hjaz : (a : Int) < (j : Int) := by omega
          obtain ⟨jp, rfl⟩ : ∃ jp, j = jp + 1 := ⟨j - 1, by omega⟩
          have hwp : IntKind.i64.wrap (jp : Int) = (jp : Int) := by rw [IntKind.wrap_i64]; omega
          have jz : (jp : Int) + 1 < (n : Int) := by omega
          have jz1 : (jp : Int) < (n : Int) := by omega
          have hjaz' : (a : Int) < (jp : Int) + 1 := by omega
          have p0 : (0 : Int) ≤ (jp : Int) + 1 := by omega
          have e0 : ((jp : Int) + 1).toNat = jp + 1 := by omega
          have hsd : dj.size = d0.size := by rw [HN.out, HS.out]
          have lj : ∀ p : SBW enc k w0 blk off dj, Sem.run P (loadCellsFrom ⟨blk, off + (jp + 1) * k, none⟩ 0 k #[]) p.w = .ok (enc dj[jp + 1]!).toArray p.w := fun p => p.h.load RR.out hsd P (jp + 1) (by have := HN.out; omega)
          have lp : ∀ p : SBW enc k w0 blk off dj, Sem.run P (loadCellsFrom ⟨blk, off + jp * k, none⟩ 0 k #[]) p.w = .ok (enc dj[jp]!).toArray p.w := fun p => p.h.load RR.out hsd P jp (by have := HN.out; omega)
          have hcg : ∀ p : SBW enc k w0 blk off dj, Calls P g (#[.agg (enc dj[jp + 1]!).toArray, .agg (enc dj[jp]!).toArray] ++ cb) p.w fun e w' => e = .returned (.int .i64 (cf dj[jp + 1]! dj[jp]!)) ∧ ∃ q : SBW enc k w0 blk off dj, w' = q.w := fun p => HC.out.at p HN.out _ _
          have HSD := aside hsd
          clear hsd
          obtain ⟨x, hx⟩ : ∃ x, dj[jp + 1]! = x := ⟨_, rfl⟩
          obtain ⟨y, hy⟩ : ∃ y, dj[jp]! = y := ⟨_, rfl⟩
          rw [hx] at lj hcg
          rw [hy] at lp hcg
          have HX := aside hx
          have HY := aside hy
          clear hx hy
          by_cases hlv : cf x y < 0
          · have HL : Aside (ltOf cf dj[jp + 1]! dj[jp]! = true) := by show _ = _; rw [HX.out, HY.out]; exact decide_eq_true hlv
            go_wp2_with fail
            haveI : Inhabited (SBW enc k w0 blk off dj) := ⟨⟨_, S1.out⟩⟩
            refine wp_region_sb S1.out (by assumption) (by kernel_rfl) ?_
            repeat (quiet_step ((go_at_fn g; exact hcg _)))
            refine wpQuiet_nil ?_
            intro _ hw'
            obtain ⟨p, rfl⟩ := hw'
            go_wp2_with fail
            have S2 : Aside (SB enc k w0 blk off (swp dj (jp + 1) jp) ((p.w.drew.setCells blk (off + (jp + 1) * k) (enc dj[jp]!)).setCells blk (off + jp * k) (enc dj[jp + 1]!))) := p.h.swapped RR.out (jp + 1) jp (by have := HN.out; omega) (by have := HN.out; omega)
            have la := p.h.ld1 RR.out HSD.out P (jp + 1) (by have := HN.out; omega)
            have lb := p.h.ld1 RR.out HSD.out P jp (by have := HN.out; omega)
            have sa := p.h.st1 RR.out HSD.out P (jp + 1) (by have := HN.out; omega) dj[jp]!
            have sb := p.h.st2 RR.out HSD.out P (jp + 1) jp (by have := HN.out; omega) (by have := HN.out; omega) dj[jp]! dj[jp + 1]!
            have na : (enc dj[jp + 1]!).length = k := RR.out.hk _
            have nb : (enc dj[jp]!).length = k := RR.out.hk _
            generalize enc dj[jp + 1]! = cI at S2 la sb na
            generalize enc dj[jp]! = cJ at S2 lb sa sb nb
            clear S1 lj lp hcg
            generalize p.w = wp at S2 la lb sa sb ⊢
            clear p
            go_big_region_o
            clear la lb sa sb
            generalize (wp.drew.setCells blk (off + (jp + 1) * k) cJ).setCells blk (off + jp * k) cI = w2 at S2 ⊢
            go_wp2
            go_roundg jp
            case measure => omega
            case rel => exact ⟨jp, swp dj (jp + 1) jp, by first | rfl | go_num | (congr 1; omega), by omega, by omega, Nat.le_refl _, (show _ = _ by rw [size_swp]; exact HN.out), S2, HI.out.step LA.out hja HL.out⟩
          · have HL : Aside (ltOf cf dj[jp + 1]! dj[jp]! = false) := by show _ = _; rw [HX.out, HY.out]; exact decide_eq_false hlv
            have hdn : decide (cf x y < 0) = false := decide_eq_false hlv
            go_wp2_with fail
            haveI : Inhabited (SBW enc k w0 blk off dj) := ⟨⟨_, S1.out⟩⟩
            refine wp_region_sb S1.out (by assumption) (by kernel_rfl) ?_
            repeat (quiet_step ((go_at_fn g; exact hcg _)))
            refine wpQuiet_nil ?_
            intro _ hw'
            obtain ⟨p, rfl⟩ := hw'
            go_wp2
            go_roundg (b - (i + 1))
            case measure => omega
            case rel => exact ⟨i + 1, dj, by go_num, by omega, by omega, by omega, HN, p.h, OUT.out (.inr (by simpa using HL.out))⟩
        · have hjaz : decide ((j : Int) > (a : Int)) = false := decide_eq_false (by omega)
          have hjaz' : ¬ (a : Int) < (j : Int) := by omega
          have S2 : Aside (SB enc k w0 blk off dj wr.drew) := S1.out.drew
          clear S1
          go_wp2_with fail
          go_big_region_o
          all_goals go_wp2
          go_roundg (b - (i + 1))
          case measure => omega
          case rel => exact ⟨i + 1, dj, by go_num, by omega, by omega, by omega, HN, S2, OUT.out (.inl (by omega))⟩
    · have hltz : ¬ (i : Int) < (b : Int) := by omega
      go_wp2
      go_end0
      exact ⟨rfl, dk, HT.out.done (by have := LB.out; omega), HN.out, S1.out⟩
end Go.Proofs.Ytaonabfnagmogaa.St.GSt
