/- klaxonref19.Due: each job that is due goes where none behind it comes ahead. -/
import Derived.Test.YtaonabfnagmogaaGDueN
import Derived.Test.YtaonabfnagmogaaSx5
import Derived.Test.YtaonabfnagmogaaSx6


namespace Go.Proofs.Ytaonabfnagmogaa.S
open Go.RowKit Go.Proofs.YtaonabfnagmogaaW.PrintWords Go.Proofs.YtaonabfnagmogaaW.PrintLast Go.Proofs.YtaonabfnagmogaaW.PrintMore Go.Proofs.Ytaonabfnagmogaa.Stable Go.Proofs.Ytaonabfnagmogaa.St
set_option linter.unusedVariables false
set_option linter.unusedSimpArgs false
def slotR (x : S27) (t : Int) : Int := if t < x.f4 then -1 else wrap64 (Int.tdiv (wrap64 (t - x.f4)) x.f3)
def isR (x : S27) (now : Int) : Bool := if x.f5 = true then false else decide (slotR x now > slotR x x.f6)
theorem slotR_tells (x : S27) (t : Int) (h : x.f3 ≠ 0) : klaxonref19_Slot.f x.f0 x.f1 x.f2 x.f3 x.f4 x.f5 x.f6 t = some (slotR x t) := by
  unfold klaxonref19_Slot.f slotR
  by_cases h1 : t < x.f4
  · rw [if_pos h1, if_pos h1]
  · rw [if_neg h1, if_neg h1, if_neg h]
theorem isR_tells (x : S27) (now : Int) (h : x.f3 ≠ 0) : klaxonref19_is.f x.f0 x.f1 x.f2 x.f3 x.f4 x.f5 x.f6 now = some (isR x now) := by
  unfold klaxonref19_is.f isR
  by_cases h1 : x.f5 = true
  · rw [if_pos h1, if_pos h1]
  · rw [if_neg h1, if_neg h1, slotR_tells x _ h, slotR_tells x _ h]; rfl
def aheadR (x y : S27) : Bool := if x.f0.toList = y.f0.toList then (if x.f1.toList = y.f1.toList then decide (x.f2 < y.f2) else Op.bytesLess x.f1.toList y.f1.toList) else Op.bytesLess x.f0.toList y.f0.toList
theorem aheadR_tells (x y : S27) : klaxonref19_ahead.f x.f0 x.f1 x.f2 x.f3 x.f4 x.f5 x.f6 y.f0 y.f1 y.f2 y.f3 y.f4 y.f5 y.f6 = some (aheadR x y) := by
  unfold klaxonref19_ahead.f aheadR
  split <;> (try split) <;> rfl
/-- How many stay ahead of x: counted from the end. -/
def stays (x : S27) (s : List S27) : Nat → Nat
  | 0 => 0
  | k + 1 => if aheadR x (rd_T27 s k) = true then stays x s k else k + 1
def insR (s : List S27) (x : S27) : List S27 := s.take (stays x s s.length) ++ x :: s.drop (stays x s s.length)
def refD (now : Int) (l : List S27) : List S27 := (l.filter fun x => isR x now).foldl insR []
theorem stays_le (x : S27) (s : List S27) : ∀ k, stays x s k ≤ k
  | 0 => Nat.le_refl _
  | k + 1 => by rw [stays]; split; · have := stays_le x s k; omega
                · exact Nat.le_refl _
theorem refD_length (now : Int) (l : List S27) : (refD now l).length ≤ l.length := by
  have : ∀ (l s : List S27), (l.foldl insR s).length = s.length + l.length := by
    intro l
    induction l with
    | nil => intro s; simp
    | cons x l ih => intro s; rw [List.foldl_cons, ih]; unfold insR; simp; have := stays_le x s s.length; omega
  unfold refD
  rw [this]
  have := List.length_filter_le (fun x => isR x now) l
  simpa using this
theorem refD_next (now : Int) (l : List S27) (i : Nat) (h : i < l.length) : refD now (l.take (i + 1)) = if isR (rd_T27 l i) now = true then insR (refD now (l.take i)) (rd_T27 l i) else refD now (l.take i) := by
  have e : rd_T27 l i = l[i] := by simp [rd_T27, List.getD_eq_getElem?_getD, List.getElem?_eq_getElem h]
  unfold refD
  rw [e, List.take_add_one, List.getElem?_eq_getElem h, List.filter_append]
  by_cases hd : isR l[i] now = true
  · rw [if_pos hd]; simp [hd]
  · rw [if_neg hd]; simp [hd]
theorem k27_KM {w w' : World} {b : Nat} {ok : Nat → Prop} {x : S27} {cs : List Value} (h : k27.K w x cs) : k27.M w' b ok x cs := by
  obtain rfl := k27_open h
  exact k27_mkM _ _ _ _
theorem held_job {w w' : World} {ad : Addr} {x : S27} (h : w.cell? ad = some (.string x.f0) ∧ w.cell? ⟨ad.block, ad.off + 1, none⟩ = some (.string x.f1) ∧ w.cell? ⟨ad.block, ad.off + 2, none⟩ = some (.int .i64 x.f2) ∧ w.cell? ⟨ad.block, ad.off + 3, none⟩ = some (.int .i64 x.f3) ∧ w.cell? ⟨ad.block, ad.off + 4, none⟩ = some (.int .i64 x.f4) ∧ w.cell? ⟨ad.block, ad.off + 5, none⟩ = some (.bool x.f5) ∧ w.cell? ⟨ad.block, ad.off + 6, none⟩ = some (.int .i64 x.f6)) (hb : Below w.heap.size w w') :
    w'.cell? ad = some (.string x.f0) ∧ w'.cell? ⟨ad.block, ad.off + 1, none⟩ = some (.string x.f1) ∧ w'.cell? ⟨ad.block, ad.off + 2, none⟩ = some (.int .i64 x.f2) ∧ w'.cell? ⟨ad.block, ad.off + 3, none⟩ = some (.int .i64 x.f3) ∧ w'.cell? ⟨ad.block, ad.off + 4, none⟩ = some (.int .i64 x.f4) ∧ w'.cell? ⟨ad.block, ad.off + 5, none⟩ = some (.bool x.f5) ∧ w'.cell? ⟨ad.block, ad.off + 6, none⟩ = some (.int .i64 x.f6) :=
  ⟨pw_cell_below hb h.1, pw_cell_below hb h.2.1, pw_cell_below hb h.2.2.1, pw_cell_below hb h.2.2.2.1, pw_cell_below hb h.2.2.2.2.1, pw_cell_below hb h.2.2.2.2.2.1, pw_cell_below hb h.2.2.2.2.2.2⟩
set_option maxHeartbeats 4000000 in
set_option maxRecDepth 1000000 in
theorem refDue_w (now : Int) (A : Option Addr) (c : Nat) (l : List S27) (w : World) (hr : Kd.C k27 w A l.length l) (h3 : ∀ x ∈ l, x.f3 ≠ 0) (hl : l.length ≤ 1000000) :
    Calls Try.prog 16 #[.int .i64 now, .slice A l.length c] w fun e w' => ∃ v : Value, e = .returned v ∧ Kd.R k27 27 w' w.heap.size (fun _ => True) v (refD now l) ∧ Below w.heap.size w w' := by
  have hu27 := Try.underlying27
  have mixed : Try.prog.follows .mixedOrders = true := by kernel_rfl
  have HR := Aside0.mk hr
  have H3 := Aside0.mk h3
  clear hr h3
  go_enter Try.func16, Try.ntmps16
  go_wp2_with fail
  go_loopg [5, 6] l.length (fun kq v5 v6 w' => ∃ i : Nat, i ≤ l.length ∧ v6 = .int .i64 i ∧ Aside0 (kq = l.length - i) ∧ Aside0 (Kd.R k27 27 w' w.heap.size (fun _ => True) v5 (refD now (l.take i))) ∧ Aside0 (Below w.heap.size w w'))
  case atStart => exact ⟨0, Nat.zero_le _, rfl, ⟨rfl⟩, ⟨Kd.R_nil _ _ _ _ _⟩, ⟨Below.refl _ _⟩⟩
  case round =>
    obtain ⟨i, hi, rfl, HK, HO, HB⟩ := hrel
    by_cases hlt : i < l.length
    · have HN := Aside0.mk (refD_next now l i hlt)
      have hx3 : (rd_T27 l i).f3 ≠ 0 := by
        have e : rd_T27 l i = l[i] := by simp [rd_T27, List.getD_eq_getElem?_getD, List.getElem?_eq_getElem hlt]
        rw [e]; exact H3.out _ (List.getElem_mem hlt)
      obtain ⟨ad0, e0, p0, p1, p2, p3, p4, p5, p6⟩ := at_T27 (Kd.C_below HR.out HB.out) (i : Int) (by omega) (by omega)
      subst e0
      rw [Int.toNat_natCast] at p0 p1 p2 p3 p4 p5 p6
      go_wp2_with fail
      refine (klaxonref19_is.calls _ _ _ _ _ _ _ now _ _ (isR_tells (rd_T27 l i) now hx3)).mono ?_
      rintro e w1 ⟨rfl, hb1⟩
      have HB1 := Aside0.mk (below_step HB.out hb1)
      have HO1 := Aside0.mk (Kd.R_below HO.out hb1)
      clear HB HO hb1 p0 p1 p2 p3 p4 p5 p6 hx3
      have HD := Aside0.mk (rfl : isR (rd_T27 l i) now = isR (rd_T27 l i) now)
      generalize isR (rd_T27 l i) now = b at HN HD ⊢
      cases b with
      | false =>
        have HN2 := Aside0.mk (HN.out.trans (if_neg (by simp)))
        go_wp2
        go_roundg (l.length - (i + 1))
        case measure => have := HK.out; omega
        case rel => exact ⟨i + 1, by omega, by go_num, ⟨rfl⟩, ⟨by rw [HN2.out]; exact HO1.out⟩, HB1⟩
      | true =>
        have HN2 := Aside0.mk (HN.out.trans (if_pos rfl))
        have hsl := refD_length now (l.take i)
        have hsl2 : (refD now (l.take i)).length ≤ i := by rw [List.length_take] at hsl; omega
        clear HN hsl
        generalize refD now (l.take i) = s at HN2 HO1 hsl2
        obtain ⟨A5, c5, rfl, hc5, hC5⟩ := Kd.R_reads HO1.out
        have HC5 := Aside0.mk hC5
        clear hC5
        go_upto_block 2 with fail
        go_cut [7] from 23 to 38 (fun v7 wx => v7 = .int .i64 ((stays (rd_T27 l i) s s.length : Nat) : Int) ∧ Aside0 (Below w1.heap.size w1 wx))
        case first =>
          go_wp2_with fail
          go_loopg [7] s.length (fun kq v7 w' => ∃ k : Nat, k ≤ s.length ∧ v7 = .int .i64 k ∧ Aside0 (kq = k) ∧ Aside0 (stays (rd_T27 l i) s s.length = stays (rd_T27 l i) s k) ∧ Aside0 (Below w1.heap.size w1 w'))
          case atStart => exact ⟨s.length, Nat.le_refl _, rfl, ⟨rfl⟩, ⟨rfl⟩, ⟨Below.refl _ _⟩⟩
          case round =>
            obtain ⟨k, hk, rfl, HK2, HT, HB2⟩ := hrel
            by_cases hk0 : 0 < k
            · obtain ⟨k, rfl⟩ : ∃ q, k = q + 1 := ⟨k - 1, by omega⟩
              obtain ⟨ad0, e0, p0, p1, p2, p3, p4, p5, p6⟩ := at_T27 (Kd.C_below HR.out HB1.out) (i : Int) (by omega) (by omega)
              obtain ⟨ad5, e5, q0, q1, q2, q3, q4, q5, q6⟩ := at_T27 HC5.out (k : Int) (by omega) (by omega)
              injection e0 with e0
              subst e0 e5
              rw [Int.toNat_natCast] at p0 p1 p2 p3 p4 p5 p6 q0 q1 q2 q3 q4 q5 q6
              have r0 := fun p : BW w1 => p.cell p0
              have r1 := fun p : BW w1 => p.cell p1
              have r2 := fun p : BW w1 => p.cell p2
              have r3 := fun p : BW w1 => p.cell p3
              have r4 := fun p : BW w1 => p.cell p4
              have r5 := fun p : BW w1 => p.cell p5
              have r6 := fun p : BW w1 => p.cell p6
              have s0 := fun p : BW w1 => p.cell q0
              have s1 := fun p : BW w1 => p.cell q1
              have s2 := fun p : BW w1 => p.cell q2
              have s3 := fun p : BW w1 => p.cell q3
              have s4 := fun p : BW w1 => p.cell q4
              have s5 := fun p : BW w1 => p.cell q5
              have s6 := fun p : BW w1 => p.cell q6
              clear p0 p1 p2 p3 p4 p5 p6 q0 q1 q2 q3 q4 q5 q6
              have hwp : IntKind.i64.wrap (k : Int) = (k : Int) := by rw [IntKind.wrap_i64]; omega
              have b1 : (k : Int) < (s.length : Int) := by omega
              have b2 : (i : Int) < (l.length : Int) := by omega
              have HD2 := Aside0.mk (rfl : aheadR (rd_T27 l i) (rd_T27 s k) = aheadR (rd_T27 l i) (rd_T27 s k))
              have hst := HT.out
              conv at hst => rhs; rw [stays]
              have HT2 := Aside0.mk hst
              clear hst
              have hcall := fun p : BW w1 => p.at (klaxonref19_ahead.calls _ _ _ _ _ _ _ _ _ _ _ _ _ _ _ p.w (aheadR_tells (rd_T27 l i) (rd_T27 s k)))
              haveI : Inhabited (BW w1) := ⟨⟨_, HB2.out⟩⟩
              go_wp2_with fail
              refine wp_region_bw HB2.out (by assumption) (by kernel_rfl) ?_
              repeat (quiet_step ((go_at_call 28; exact hcall _)))
              refine wpQuiet_nil ?_
              intro _ hw'
              obtain ⟨p, rfl⟩ := hw'
              have HP := Aside0.mk p.h
              clear r0 r1 r2 r3 r4 r5 r6 s0 s1 s2 s3 s4 s5 s6 hcall
              generalize aheadR (rd_T27 l i) (rd_T27 s k) = bb at HT2 HD2 ⊢
              cases bb with
              | true =>
                have HT3 := Aside0.mk (HT2.out.trans (if_pos rfl))
                go_wp2_with fail
                go_roundg k
                case measure => have := HK2.out; omega
                case rel => exact ⟨k, by omega, by go_num, ⟨rfl⟩, HT3, HP⟩
              | false =>
                have HT3 := Aside0.mk (HT2.out.trans (if_neg (by simp)))
                go_wp2_with fail
                go_meet
                exact ⟨by rw [HT3.out]; first | rfl | go_num, HP⟩
            · have : k = 0 := by omega
              subst this
              have HB3 := Aside0.mk HB2.out.drew
              have dz : decide ((0 : Int) > 0) = false := rfl
              go_wp2_with fail
              go_big_region_o
              all_goals go_wp2
              go_meet
              exact ⟨by rw [HT.out]; rfl, HB3⟩
        case rest =>
          obtain ⟨rfl, HB2⟩ := hcut
          have hm := stays_le (rd_T27 l i) s s.length
          have HIN := Aside0.mk (show insR s (rd_T27 l i) = s.take (stays (rd_T27 l i) s s.length) ++ rd_T27 l i :: s.drop (stays (rd_T27 l i) s s.length) from rfl)
          generalize stays (rd_T27 l i) s s.length = m at hm HIN ⊢
          obtain ⟨ad0, e0, p0, p1, p2, p3, p4, p5, p6⟩ := at_T27 (Kd.C_below HR.out (HB1.out.trans (HB2.out.mono (below_size HB1.out)))) (i : Int) (by omega) (by omega)
          injection e0 with e0
          subst e0
          rw [Int.toNat_natCast] at p0 p1 p2 p3 p4 p5 p6
          have CO := Aside0.mk (Kd.C_below HC5.out HB2.out)
          have b2 : (i : Int) < (l.length : Int) := by omega
          have hsl : s.length ≤ i := hsl2
          have CO1 : Aside0 (Kd.C k27 wc A5 m (s.take m)) := Aside0.mk (by have := Kd.C_take CO.out hm; rwa [List.length_take, Nat.min_eq_left hm] at this)
          obtain ⟨A6, hA6⟩ : ∃ A6, (if c5 = m then A5 else Option.map (fun x => x.add (m * 7)) A5) = A6 := ⟨_, rfl⟩
          have CO2 : Aside0 (Kd.C k27 wc A6 (s.length - m) (s.drop m)) := Aside0.mk (by have := Kd.C_drop CO.out hm hc5; rw [List.length_drop] at this; rw [← hA6]; exact this)
          have hmc : m ≤ c5 := by omega
          have HPc := Aside0.mk (And.intro p0 (And.intro p1 (And.intro p2 (And.intro p3 (And.intro p4 (And.intro p5 p6))))))
          have CL := Aside0.mk hc5
          clear CO hc5
          go_wp2_with fail
          go_region_held3 (fun w' => w'.cell? (ad0.add (i * 7)) = some (.string (rd_T27 l i).f0) ∧ w'.cell? ⟨(ad0.add (i * 7)).block, (ad0.add (i * 7)).off + 1, none⟩ = some (.string (rd_T27 l i).f1) ∧ w'.cell? ⟨(ad0.add (i * 7)).block, (ad0.add (i * 7)).off + 2, none⟩ = some (.int .i64 (rd_T27 l i).f2) ∧ w'.cell? ⟨(ad0.add (i * 7)).block, (ad0.add (i * 7)).off + 3, none⟩ = some (.int .i64 (rd_T27 l i).f3) ∧ w'.cell? ⟨(ad0.add (i * 7)).block, (ad0.add (i * 7)).off + 4, none⟩ = some (.int .i64 (rd_T27 l i).f4) ∧ w'.cell? ⟨(ad0.add (i * 7)).block, (ad0.add (i * 7)).off + 5, none⟩ = some (.bool (rd_T27 l i).f5) ∧ w'.cell? ⟨(ad0.add (i * 7)).block, (ad0.add (i * 7)).off + 6, none⟩ = some (.int .i64 (rd_T27 l i).f6))
            (first | go_keep | (exact held_job HPc.out hbn))
            (first
              | (refine Kd.R_append_rows_step k27 (w0 := wc) wc.heap.size (by rfl) (.tmp 39) (.tmp 42) 22 27 _ 72 rfl Try.underlying22 info27 rfl (by decide) (by decide) _ [] (s.take m) A5 m c5 (fun _ => True) (fun _ => False) rfl rfl (lit_none k27 27 (by first | exact blk_new _ _ | exact blk_new2 _ _ _ | exact blk_old (blk_new _ _)) (by first | exact Nat.le_refl _ | exact Nat.le_succ _ | exact size_new _ _)) (Kd.C_below CO1.out (by first | exact (Below.refl _ _).drew.alloc (Nat.le_refl _) _ | exact ((Below.refl _ _).drew.alloc (Nat.le_refl _) _).alloc (size_new _ _) _)) (fun _ _ h => k27_KM h) (fun _ h => h.elim) (fun _ _ => trivial) (by first | exact (Below.refl _ _).drew.alloc (Nat.le_refl _) _ | exact ((Below.refl _ _).drew.alloc (Nat.le_refl _) _).alloc (size_new _ _) _) (below_size (by first | exact (Below.refl _ _).drew.alloc (Nat.le_refl _) _ | exact ((Below.refl _ _).drew.alloc (Nat.le_refl _) _).alloc (size_new _ _) _)) (by simp only [List.length_nil]; omega) ?_; intro v43 w43 ho43 hbn hg43 _)
              | (refine Kd.R_append_rows_step k27 (w0 := wc) wc.heap.size (by rfl) (.tmp 43) (.tmp 48) 22 27 _ 72 rfl Try.underlying22 info27 rfl (by decide) (by decide) v43 (s.take m) [rd_T27 l i] _ 1 1 (fun _ => True) (fun _ => False) rfl rfl  (Kd.R_below ho43 (below_alloc (Below.refl _ _) _)) (Kd.R_reads' (lit_one (base := wc.heap.size) (g := w43.heap.size) (cs := jobL (rd_T27 l i)) k27 27 (blk_new w43 _) (below_size hbn) (k27_mkM _ _ _ _))).2.2 (fun _ _ h => k27_KM h) (fun _ h => h.elim) (fun _ _ => trivial) (hbn.alloc (below_size hbn) _) (by first | exact below_size hbn | exact below_size (hbn.alloc (below_size hbn) _)) (by rw [List.length_take]; omega) ?_; intro v49 w49 ho49 hbn hg49 _)
              | (refine Kd.R_append_rows_step k27 (w0 := wc) wc.heap.size (by rfl) (.tmp 43) (.tmp 48) 22 27 _ 72 rfl Try.underlying22 info27 rfl (by decide) (by decide) v43 (s.take m) [rd_T27 l i] _ 1 1 (fun _ => True) (fun _ => False) rfl rfl  ho43 (Kd.R_reads' (lit_one (base := wc.heap.size) (g := wc.heap.size) (cs := jobL (rd_T27 l i)) k27 27 (blk_grown (by first | exact blk_new _ _ | exact blk_new2 _ _ _ | exact blk_old (blk_new _ _)) hg43 (ne_own (by first | exact Nat.succ_ne_self wc.heap.size | exact (Nat.succ_ne_self wc.heap.size).symm))) (by omega) (k27_mkM _ _ _ _))).2.2 (fun _ _ h => k27_KM h) (fun _ h => h.elim) (fun _ _ => trivial) hbn (by first | exact below_size hbn | exact below_size (hbn.alloc (below_size hbn) _)) (by rw [List.length_take]; omega) ?_; intro v49 w49 ho49 hbn hg49 _)
              | (refine Kd.R_append_rows_step k27 (w0 := wc) wc.heap.size (by rfl) (.tmp 49) (.tmp 52) 22 27 _ 72 rfl Try.underlying22 info27 rfl (by decide) (by decide) _ (s.take m ++ [rd_T27 l i]) (s.drop m) A6 (s.length - m) (c5 - m) (fun _ => True) (fun _ => False) rfl rfl ho49 (Kd.C_below CO2.out hbn) (fun _ _ h => k27_KM h) (fun _ h => h.elim) (fun _ _ => trivial) hbn (below_size hbn) (by rw [List.length_append, List.length_take, List.length_singleton]; omega) ?_; intro v53 w53 ho53 hbn hg53 _)
              | ((refine Kd.R_append_rows_step k27 (w0 := wc) wc.heap.size (by rfl) (.tmp 43) (.tmp 48) 22 27 _ 72 rfl Try.underlying22 info27 rfl (by decide) (by decide) v43 (s.take m) [rd_T27 l i] _ 1 1 (fun _ => True) (fun _ => False) rfl rfl  ho43 (Kd.R_reads' (lit_one (base := wc.heap.size) (g := wc.heap.size + 1) (cs := jobL (rd_T27 l i)) k27 27 (blk_grown (by first | exact blk_new _ _ | exact blk_new2 _ _ _ | exact blk_old (blk_new _ _)) hg43 (ne_own (by first | exact Nat.succ_ne_self wc.heap.size | exact (Nat.succ_ne_self wc.heap.size).symm))) (by omega) (k27_mkM _ _ _ _))).2.2 (fun _ _ h => k27_KM h) (fun _ h => h.elim) (fun _ _ => trivial) hbn (by first | exact below_size hbn | exact below_size (hbn.alloc (below_size hbn) _)) (by rw [List.length_take]; omega) ?_; intro v49 w49 ho49 hbn hg49 _)))
          all_goals
            have HF := Aside0.mk (show refD now (l.take (i + 1)) = s.take m ++ [rd_T27 l i] ++ s.drop m from by rw [HN2.out, HIN.out]; simp)
            have HO2 := Aside0.mk (Kd.R_lower ho53 (Nat.le_trans (below_size HB1.out) (below_size HB2.out)))
            have HB3 := Aside0.mk ((HB1.out.trans (HB2.out.mono (below_size HB1.out))).trans (hbn.mono (Nat.le_trans (below_size HB1.out) (below_size HB2.out))))
            clear ho43 ho49 ho53 hbn hg43 hg49 hg53
            go_wp2
            go_roundg (l.length - (i + 1))
            case measure => have := HK.out; omega
            case rel => exact ⟨i + 1, by omega, by go_num, ⟨rfl⟩, ⟨by rw [HF.out]; exact HO2.out⟩, HB3⟩
    · go_wp2
      go_ret
      exact ⟨_, rfl, by have := HO.out; rwa [List.take_of_length_le (by omega)] at this, HB.out⟩
end Go.Proofs.Ytaonabfnagmogaa.S
namespace Go.Proofs.Ytaonabfnagmogaa.S
open Go.RowKit Go.Proofs.YtaonabfnagmogaaW.PrintWords Go.Proofs.YtaonabfnagmogaaW.PrintLast Go.Proofs.YtaonabfnagmogaaW.PrintMore
set_option linter.unusedVariables false
def klaxonref19_Due.f (a0 : Int) (l : List S27) : Option (List S27) := if l.length ≤ 1000000 then (if l.all (fun x => x.f3 != 0) = true then some (refD a0 l) else none) else none
theorem klaxonref19_Due.calls (a0 : Int) (A1 : Option Addr) (c1 : Nat) (l1 : List (S27)) (r : List S27) (w : World) (hr1 : Kd.C k27 w A1 l1.length l1) (hc1 : l1.length ≤ c1) (h : klaxonref19_Due.f a0 l1 = some r) :
    Calls Try.prog 16 #[.int .i64 a0, .slice A1 l1.length c1] w fun e w' => ∃ v0_ : Value, e = .returned v0_ ∧ Kd.R k27 27 w' w.heap.size (fun _ => True) v0_ r ∧ Below w.heap.size w w' := by
  unfold klaxonref19_Due.f at h
  split at h
  · rename_i h1
    split at h
    · rename_i ha
      injection h with h
      subst h
      refine refDue_w a0 A1 c1 l1 w hr1 (fun x hx => ?_) h1
      have := List.all_eq_true.1 ha x hx
      simpa using this
    · cases h
  · cases h
end Go.Proofs.Ytaonabfnagmogaa.S
