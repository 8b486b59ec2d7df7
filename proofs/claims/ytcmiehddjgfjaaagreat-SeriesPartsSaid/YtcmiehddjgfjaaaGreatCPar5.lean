/- A part of the proof of LawSeriesParts: contracts and plain laws, put together by a program of this session. -/
import Derived.Test.YtcmiehddjgfjaaaGreatCPar4
import Derived.Lib.Strings
set_option linter.unusedVariables false
set_option linter.unusedSimpArgs false
set_option linter.unusedSectionVars false
set_option maxHeartbeats 8000000
set_option maxRecDepth 100000
namespace Go.Proofs.YtcmiehddjgfjaaaGreat.A
open Go.RowKit Go.Proofs.YtcmiehddjgfjaaaGreatW.PrintWords Go.Proofs.YtcmiehddjgfjaaaGreatW.PrintLast Go.Proofs.YtcmiehddjgfjaaaGreatW.PrintMore Go.Proofs.YtcmiehddjgfjaaaGreat.St Go.Proofs.YtcmiehddjgfjaaaGreat.Stable
attribute [local go_sem high] eqA62
def idxL (x : Lab) : List Lab → Nat → Int
  | [], _ => -1
  | y :: l, i => if cmpLab x y = 0 then (i : Int) else idxL x l (i + 1)
def hasL (l : List Lab) (x : Lab) : Bool := l.any fun y => decide (cmpLab x y = 0)
theorem hasL_iff (l : List Lab) (x : Lab) : hasL l x = true ↔ x ∈ l := by
  unfold hasL
  rw [List.any_eq_true]
  constructor
  · rintro ⟨y, hy, h⟩
    rw [cmpLab_eq.1 (of_decide_eq_true h)]; exact hy
  · intro h; exact ⟨x, h, decide_eq_true (cmpLab_eq.2 rfl)⟩
theorem idxL_ge (x : Lab) : ∀ (l : List Lab) (i : Nat), decide (0 ≤ idxL x l i) = hasL l x
  | [], i => by simp [idxL, hasL]
  | y :: l, i => by
    have ih := idxL_ge x l (i + 1)
    unfold hasL at ih ⊢
    rw [idxL, List.any_cons]
    by_cases h : cmpLab x y = 0
    · rw [if_pos h, decide_eq_true h, Bool.true_or]
      exact decide_eq_true (by omega)
    · rw [if_neg h, decide_eq_false h, Bool.false_or, ih]
theorem idxL_calls (A : Option Addr) (c : Nat) (l : List Lab) (x : Lab) (w : World) (hr : Kd.C k62 w A l.length l) :
    Calls Tryz.prog 152 #[.slice A l.length c, .agg #[.string x.f0, .string x.f1]] w fun e w' => e = .returned (.int .i64 (idxL x l 0)) ∧ Below w.heap.size w w' := by
  have hm : l.length ≤ 9223372036854775807 := Kd.C_max hr
  have HR := Sd.mk hr
  have mixed : Tryz.prog.follows .mixedOrders = true := by kernel_rfl
  have HB0 := Sd.mk (bal (Below.refl w.heap.size w) (.cells #[.string x.f0, .string x.f1] 62))
  have X0 := Sd.mk (blk_new w (.cells #[.string x.f0, .string x.f1] 62))
  clear hr
  go_enter Tryz.func152, Tryz.ntmps152
  go_wp2
  go_loopw [4, 5, 8] (fun v4 _ v8 wr => ∃ i : Nat, i ≤ l.length ∧ v4 = .int .i64 0 ∧ v8 = .int .i64 i ∧ Sd (idxL x l 0 = idxL x (l.drop i) i) ∧ Sd (Below (w.alloc (.cells #[.string x.f0, .string x.f1] 62)).heap.size (w.alloc (.cells #[.string x.f0, .string x.f1] 62)) wr)) (fun _ _ v8 _ => l.length - (intOf v8).toNat)
  case atStart => exact ⟨0, Nat.zero_le _, rfl, rfl, ⟨rfl⟩, ⟨Below.refl _ _⟩⟩
  case round =>
    obtain ⟨i, hi, rfl, rfl, HT, HW⟩ := hrel
    have HG := Sd.mk (HB0.out.trans (HW.out.mono HB0.out.size))
    by_cases hlt : i < l.length
    · have b1 : (i : Int) < (l.length : Int) := by omega
      obtain ⟨ad, rfl, p0, p1⟩ := at_T62 (Kd.C_below HR.out HG.out) (i : Int) (by omega) (by omega)
      rw [Int.toNat_natCast, rdL_at hlt] at p0 p1
      have hst : idxL x (l.drop i) i = if cmpLab x l[i] = 0 then (i : Int) else idxL x (l.drop (i + 1)) (i + 1) := by rw [List.drop_eq_getElem_cons hlt, idxL]
      have HX := Sd.mk (HT.out.trans hst)
      clear hst HT
      generalize l[i] = y at p0 p1 HX
      have q0 := fun p : Bw wr => p.cell p0
      have q1 := fun p : Bw wr => p.cell p1
      have s0 := fun p : Bw wr => p.cell ((blk_cell (blk_below X0.out HW.out) 0).trans rfl)
      have s1 := fun p : Bw wr => p.cell ((blk_cell (blk_below X0.out HW.out) 1).trans rfl)
      clear p0 p1
      by_cases he : cmpLab x y = 0
      · have HZ := Sd.mk (HX.out.trans (if_pos he))
        obtain rfl := cmpLab_eq.1 he
        clear he HX
        go_wp2_with fail
        refine wp_region_Bw (by assumption) (by kernel_rfl) ?_
        repeat ((with_reducible refine wpQuiet_step (fun K hK => ?_)); go_simp; first | ((with_reducible refine hK _ ?_); clear hK K) | (rw [if_neg (by decide)]; (with_reducible refine hK _ ?_); clear hK K))
        refine wpQuiet_nil ?_
        intro _ hw'
        obtain ⟨p, rfl⟩ := hw'
        have HB2 := Sd.mk (HG.out.trans (p.h.mono HG.out.size))
        go_wp2
        go_ret
        exact ⟨by rw [HZ.out]; rfl, HB2.out⟩
      · have HZ := Sd.mk (HX.out.trans (if_neg he))
        have ne := lab_ne he
        clear he HX
        go_wp2_with fail
        refine wp_region_Bw (by assumption) (by kernel_rfl) ?_
        repeat ((with_reducible refine wpQuiet_step (fun K hK => ?_)); go_simp; first | ((with_reducible refine hK _ ?_); clear hK K) | (rw [if_neg (by decide)]; (with_reducible refine hK _ ?_); clear hK K))
        refine wpQuiet_nil ?_
        intro _ hw'
        obtain ⟨p, rfl⟩ := hw'
        have HB2 := Sd.mk (HW.out.trans (p.h.mono HW.out.size))
        go_wp2
        go_roundw
        case rel => exact ⟨i + 1, by omega, rfl, by go_num, HZ, HB2⟩
        case measure => simp [intOf]; omega
    · have m1 : decide ((i : Int) < (l.length : Int)) = false := decide_eq_false (by omega)
      have m2 : decide (i < l.length) = false := decide_eq_false hlt
      have HZ := Sd.mk (show idxL x l 0 = -1 by rw [HT.out, List.drop_of_length_le (by omega)]; rfl)
      go_wp2
      go_ret
      exact ⟨by rw [HZ.out]; rfl, HG.out⟩
theorem hasL_calls (A : Option Addr) (c : Nat) (l : List Lab) (x : Lab) (w : World) (hr : Kd.C k62 w A l.length l) :
    Calls Tryz.prog 104 #[.slice A l.length c, .agg #[.string x.f0, .string x.f1]] w fun e w' => e = .returned (.bool (hasL l x)) ∧ Below w.heap.size w w' := by
  have hb := bal (Below.refl w.heap.size w) (.cells #[.string x.f0, .string x.f1] 62)
  have HI := Sd.mk (idxL_calls A c l x _ (Kd.C_below hr hb))
  have HB := Sd.mk hb
  rw [← idxL_ge x l 0]
  generalize idxL x l 0 = r at HI ⊢
  obtain ⟨s, t⟩ := x
  simp only at HI HB
  clear hr hb
  go_enter Tryz.func104, Tryz.ntmps104
  go_wp2_with (go_at_call 152; refine HI.out.mono ?_; rintro e w1 ⟨rfl, hb1⟩; have HE := Sd.mk (HB.out.trans (hb1.mono HB.out.size)); clear hb1)
  go_ret
  exact ⟨by first | rfl | simp, HE.out⟩
theorem within1_calls (B : Option Addr) (c : Nat) (b : List Lab) (x : Lab) (ad : Addr) (w : World) (hr : Kd.C k62 w B b.length b) (hc : w.cell? ad = some (.slice B b.length c)) :
    Calls Tryz.prog 103 #[.agg #[.string x.f0, .string x.f1], .pointer (some ad)] w fun e w' => e = .returned (.bool (!hasL b x)) ∧ Below w.heap.size w w' := by
  have hb := bal (Below.refl w.heap.size w) (.cells #[.string x.f0, .string x.f1] 62)
  have c0 := pw_cell_below hb hc
  have HI := Sd.mk (hasL_calls B c b x _ (Kd.C_below hr hb))
  have HB := Sd.mk hb
  generalize hasL b x = r at HI ⊢
  obtain ⟨s, t⟩ := x
  simp only at HI HB c0 ⊢
  clear hr hb hc
  go_enter Tryz.func103, Tryz.ntmps103
  go_wp2_with (go_at_call 104; refine HI.out.mono ?_; rintro e w1 ⟨rfl, hb1⟩; have HE := Sd.mk (HB.out.trans (hb1.mono HB.out.size)); clear hb1)
  go_ret
  exact ⟨by first | rfl | simp, HE.out⟩
/-- The code's 'within'. -/
def inC (a b : List Lab) : Bool := !a.any fun x => !hasL b x
theorem inC_iff (a b : List Lab) : inC a b = true ↔ Within a b := by
  unfold inC Within
  rw [Bool.not_eq_true', List.any_eq_false]
  constructor
  · intro h x hx
    have := h x hx
    rw [Bool.not_eq_true', Bool.not_eq_false] at this
    exact (hasL_iff b x).1 this
  · intro h x hx
    rw [(hasL_iff b x).2 (h x hx)]; simp
theorem within_calls (A B : Option Addr) (c d : Nat) (a b : List Lab) (w : World) (ha : Kd.C k62 w A a.length a) (hb : Kd.C k62 w B b.length b) :
    Calls Tryz.prog 63 #[.slice A a.length c, .slice B b.length d] w fun e w' => e = .returned (.bool (inC a b)) ∧ Below w.heap.size w w' := by
  have eg : ∀ args w, (callFunc 103 args).run Tryz.prog w = .ok (.enter 103 args) w := enters_of Tryz.func103 (by kernel_rfl) rfl
  have hb0 : Below w.heap.size w (w.alloc (.cells #[.slice B b.length d] 35)) := bal (Below.refl _ _) _
  have hcell : (w.alloc (.cells #[.slice B b.length d] 35)).cell? ⟨w.heap.size, 0, none⟩ = some (.slice B b.length d) := (blk_cell (blk_new w _) 0).trans rfl
  have hi := containsLabel (fun x => !hasL b x) 103 #[.pointer (some ⟨w.heap.size, 0, none⟩)] eg A c a _ (Kd.C_below ha hb0) (fun x hx w1 cs hw hK => by
    obtain rfl := k62_open hK
    exact within1_calls B d b x _ w1 (Kd.C_below (Kd.C_below hb hb0) hw) (pw_cell_below hw hcell))
  unfold inC
  generalize (a.any fun x => !hasL b x) = r at hi ⊢
  have HI := Sd.mk hi
  have HB := Sd.mk hb0
  clear hi hb0 hcell eg ha hb
  go_enter Tryz.func63, Tryz.ntmps63
  go_wp2_with (go_at_call 102; refine HI.out.mono ?_; rintro e w1 ⟨rfl, hb1⟩; have HE := Sd.mk (HB.out.trans (hb1.mono HB.out.size)); clear hb1)
  go_ret
  exact ⟨by first | rfl | simp, HE.out⟩
def fits (x y : Ser) : Bool := inC x.f0 y.f0 || inC y.f0 x.f0
def joinS (op : ByteArray) (x y : Ser) : Ser := ⟨(vJoinL x.f0 y.f0).1, ⟨(vDo op [(x.f1.f0, x.f1.f1), (y.f1.f0, y.f1.f1)]).1.1, (vDo op [(x.f1.f0, x.f1.f1), (y.f1.f0, y.f1.f1)]).1.2⟩⟩
def rowJ (op : ByteArray) (x : Ser) (q : List Ser) : List Ser := (q.filter (fits x)).map (joinS op x)
def pairsJ (op : ByteArray) (p q : List Ser) : List Ser := p.flatMap fun x => rowJ op x q
def vJoin (op : ByteArray) (a b : List Ser) : List Ser × Int := if (vSort a).2 = 0 then (if (vSort b).2 = 0 then (if (vDo op [(1, 0), (1, 0)]).2 = 0 then vSort (pairsJ op (vSort a).1 (vSort b).1) else ([], 2)) else ([], (vSort b).2)) else ([], (vSort a).2)
theorem rowJ_step (op : ByteArray) (x : Ser) (q : List Ser) (j : Nat) (hj : j < q.length) : rowJ op x (q.take (j + 1)) = rowJ op x (q.take j) ++ (if fits x q[j] = true then [joinS op x q[j]] else []) := by
  unfold rowJ
  rw [List.take_add_one, List.getElem?_eq_getElem hj, List.filter_append, List.map_append]
  congr 1
  by_cases h : fits x q[j] = true
  · rw [if_pos h]; simp [h]
  · rw [if_neg h]; simp [h]
theorem pairsJ_step (op : ByteArray) (p q : List Ser) (i : Nat) (hi : i < p.length) : pairsJ op (p.take (i + 1)) q = pairsJ op (p.take i) q ++ rowJ op p[i] q := by
  unfold pairsJ
  rw [List.take_add_one, List.getElem?_eq_getElem hi, List.flatMap_append]
  simp
theorem rowJ_len (op : ByteArray) (x : Ser) (q : List Ser) : (rowJ op x q).length ≤ q.length := by
  unfold rowJ
  rw [List.length_map]
  exact List.length_filter_le _ _
theorem pairsJ_len (op : ByteArray) (q : List Ser) : ∀ p : List Ser, (pairsJ op p q).length ≤ p.length * q.length
  | [] => by simp [pairsJ]
  | x :: p => by
    have h1 := rowJ_len op x q
    have h2 := pairsJ_len op q p
    have e : pairsJ op (x :: p) q = rowJ op x q ++ pairsJ op p q := by unfold pairsJ; rw [List.flatMap_cons]
    rw [e, List.length_append, List.length_cons, Nat.add_mul, Nat.one_mul]
    omega
theorem set_ok {l : List Lab} (h : isSet l = true) : LabsOk l ∧ l.length ≤ 16 := by
  obtain ⟨h1, _, h3⟩ := (isSet_iff l).1 h
  refine ⟨⟨by omega, fun x hx => ?_⟩, h3⟩
  have := h1 x hx
  unfold isLab isName at this
  simp only [Bool.and_eq_true, decide_eq_true_eq] at this
  unfold LabOk
  omega
theorem vSort_ok {l : List Ser} (h : (vSort l).2 = 0) : (∀ x ∈ l, isSet x.f0 = true) ∧ (∀ x ∈ l, isV (x.f1.f0, x.f1.f1)) ∧ adjEq cmpSer (isort (ltOf cmpSer) l) = false ∧ l.length ≤ 200 ∧ (vSort l).1 = isort (ltOf cmpSer) l := by
  unfold vSort at h ⊢
  split at h
  · cases h
  · rename_i h1
    split at h
    · cases h
    · rename_i h2
      split at h
      · cases h
      · rename_i h3
        split at h
        · cases h
        · rename_i h4
          rw [isort_length] at h4
          refine ⟨fun x hx => ?_, fun x hx => ?_, by simpa using h3, by omega, by rw [if_neg h1, if_neg h2, if_neg h3, if_neg (by rw [isort_length]; exact h4)]⟩
          · cases hb : isSet x.f0 with
            | true => rfl
            | false => exact absurd (List.any_eq_true.2 ⟨x, hx, by rw [hb]; rfl⟩) h1
          · by_cases hb : isV (x.f1.f0, x.f1.f1)
            · exact hb
            · exact absurd (List.any_eq_true.2 ⟨x, hx, by unfold badVal; rw [decide_eq_false hb]; rfl⟩) h2
theorem vSort_mem {l : List Ser} (h : (vSort l).2 = 0) {x : Ser} : x ∈ (vSort l).1 ↔ x ∈ l := by
  rw [(vSort_ok h).2.2.2.2]
  exact (isort_perm _ l).mem_iff
theorem vSort_len {l : List Ser} (h : (vSort l).2 = 0) : (vSort l).1.length ≤ 200 := by
  rw [(vSort_ok h).2.2.2.2, isort_length]
  exact (vSort_ok h).2.2.2.1
/-- The labels of two that fit: the longer ones. -/
theorem joinS_labels {op : ByteArray} {x y : Ser} (hx : isSet x.f0 = true) (hy : isSet y.f0 = true) (hf : fits x y = true) : (joinS op x y).f0 = (if x.f0.length < y.f0.length then y.f0 else x.f0) := by
  unfold fits at hf
  rw [Bool.or_eq_true, inC_iff, inC_iff] at hf
  unfold joinS
  rw [join_longer hx hy hf]
theorem pairsJ_sets {op : ByteArray} {p q : List Ser} (hp : ∀ x ∈ p, isSet x.f0 = true) (hq : ∀ x ∈ q, isSet x.f0 = true) : ∀ z ∈ pairsJ op p q, isSet z.f0 = true := by
  intro z hz
  unfold pairsJ rowJ at hz
  obtain ⟨x, hx, hz⟩ := List.mem_flatMap.1 hz
  obtain ⟨y, hy, rfl⟩ := List.mem_map.1 hz
  obtain ⟨hy, hf⟩ := List.mem_filter.1 hy
  rw [joinS_labels (hp x hx) (hq y hy) hf]
  split
  · exact hq y hy
  · exact hp x hx
theorem pairsJ_ok {op : ByteArray} {p q : List Ser} (hp : ∀ x ∈ p, isSet x.f0 = true) (hq : ∀ x ∈ q, isSet x.f0 = true) (lp : p.length ≤ 200) (lq : q.length ≤ 200) : SersOk (pairsJ op p q) := by
  have h1 := pairsJ_len op q p
  have h2 : p.length * q.length ≤ 200 * 200 := Nat.mul_le_mul lp lq
  refine ⟨by omega, fun z hz => ?_⟩
  have h := set_ok (pairsJ_sets hp hq z hz)
  exact ⟨by omega, h.1⟩
/-- Element i of a row of the call's own, read. -/
theorem own_at {W : World} {base g n c : Nat} {ok : Nat → Prop} {xs : List Ser} (HO : Kd.N k37 37 W base ok (.slice (some ⟨g, 0, none⟩) n c) xs) (i : Nat) (hi : i < xs.length) :
    ∃ A0 c0, W.cell? ⟨g, i * 3, none⟩ = some (.slice A0 (xs[i]).f0.length c0) ∧ W.cell? ⟨g, i * 3 + 1, none⟩ = some (.int .i64 (xs[i]).f1.f0) ∧ W.cell? ⟨g, i * 3 + 2, none⟩ = some (.int .i64 (xs[i]).f1.f1) ∧ (xs[i]).f0.length ≤ c0 ∧ Kd.C k62 W A0 (xs[i]).f0.length (xs[i]).f0 ∧ Kd.FK k37 W (fun k => ok k ∧ k ≠ g) xs[i] [.slice A0 (xs[i]).f0.length c0, .int .i64 (xs[i]).f1.f0, .int .i64 (xs[i]).f1.f1] := by
  have hn := (Kd.N_reads' HO).1
  obtain ⟨cs, hl, hK, hc, _⟩ := Kd.N_elem HO z37 (i : Int) (by omega) (by omega)
  rw [Int.toNat_natCast, List.getD_eq_getElem?_getD, List.getElem?_eq_getElem hi] at hK
  rw [Int.toNat_natCast] at hc
  obtain ⟨A0, c0, rfl, l0, g0⟩ := k37_open (Kd.FK_now hK)
  exact ⟨A0, c0, hc 0 _ rfl, hc 1 _ rfl, hc 2 _ rfl, l0, g0, hK⟩
theorem vSort_strict {l : List Ser} (h1 : ∀ x ∈ l, isSet x.f0 = true) (h2 : ∀ x ∈ l, isV (x.f1.f0, x.f1.f1)) (h3 : Strict cmpSer l) (h4 : l.length ≤ 200) : vSort l = (l, 0) := by
  have e := isort_id cmpSer3 (h3.sorted cmpSer3)
  unfold vSort
  rw [if_neg (by
    intro h
    obtain ⟨x, hx, hb⟩ := List.any_eq_true.1 h
    rw [h1 x hx] at hb
    cases hb), if_neg (by
    intro h
    obtain ⟨x, hx, hb⟩ := List.any_eq_true.1 h
    unfold badVal at hb
    rw [decide_eq_true (h2 x hx)] at hb
    cases hb), e, if_neg (by rw [adj_apart h3.apart]; simp), if_neg (by omega)]
theorem ljoin_calls (A B : Option Addr) (ca cb : Nat) (a b : List Lab) (ha : LabsOk a) (hb : LabsOk b) (hn : (a.length + b.length) * 32 ≤ 140737488355328) (w : World) (hA : Kd.C k62 w A a.length a) (hB : Kd.C k62 w B b.length b) :
    Calls Tryz.prog 64 #[.slice A a.length ca, .slice B b.length cb] w fun e w' => ∃ v : Value, e = .returned (.tuple #[v, .bool (vJoinL a b).2]) ∧ Kd.R k62 62 w' w.heap.size (fun _ => True) v (vJoinL a b).1 ∧ Below w.heap.size w w' := by
  generalize hrr : vJoinL a b = r
  have HRR := Sd.mk hrr
  have HA := Sd.mk hA
  have HB := Sd.mk hB
  have HN := Sd.mk hn
  have HLA := Sd.mk ha
  have HLB := Sd.mk hb
  have hbl : b.length < 4611686018427387904 := hb.1
  clear hrr hA hB hn ha hb
  have mixed : Tryz.prog.follows .mixedOrders = true := by kernel_rfl
  go_enter Tryz.func64, Tryz.ntmps64
  go_wp2_with (go_at_call 105; refine (cloneLabel A ca a _ HA.out (by have := HN.out; omega)).mono ?_; rintro e w2 ⟨v, rfl, hv, hb2⟩; have HV := Sd.mk hv; have HB2 := Sd.mk hb2; clear hv hb2)
  go_loopw [6, 16] (fun v6 v16 wr => ∃ (i : Nat) (all : List Lab), i ≤ b.length ∧ v16 = .int .i64 i ∧ Sd (joinGo a a b = joinGo a all (b.drop i)) ∧ Sd (all.length ≤ a.length + i) ∧ Sd (∀ x ∈ all, x ∈ a ∨ x ∈ b) ∧ Sd (Kd.R k62 62 wr w.heap.size (fun _ => True) v6 all) ∧ Sd (Below w.heap.size w wr)) (fun _ v16 _ => b.length - (intOf v16).toNat)
  case atStart => exact ⟨0, a, Nat.zero_le _, rfl, ⟨rfl⟩, ⟨Nat.le_refl _⟩, ⟨fun x h => .inl h⟩, HV, HB2⟩
  case round =>
    clear HV HB2
    obtain ⟨i, all, hi, rfl, HT, HG, HI, HO, HW⟩ := hrel
    by_cases hlt : i < b.length
    · have b1 : (i : Int) < (b.length : Int) := by omega
      obtain ⟨ad, rfl, p0, p1⟩ := at_T62 (Kd.C_below HB.out HW.out) (i : Int) (by omega) (by omega)
      rw [Int.toNat_natCast, rdL_at hlt] at p0 p1
      have hst : joinGo a all (b.drop i) = if getL a b[i].f0 = ⟨#[]⟩ then joinGo a (all ++ [b[i]]) (b.drop (i + 1)) else if getL a b[i].f0 = b[i].f1 then joinGo a all (b.drop (i + 1)) else none := by rw [List.drop_eq_getElem_cons hlt, joinGo]
      have HX := Sd.mk (HT.out.trans hst)
      have HXB := Sd.mk (List.getElem_mem hlt)
      clear hst HT
      generalize b[i] = y at p0 p1 HX HXB
      obtain ⟨s, t⟩ := y
      simp only at p0 p1 HX
      have hb0 := bal (Below.refl wr.heap.size wr) (.cells #[.string s, .string t] 62)
      have HGet := Sd.mk (get_calls A ca a s _ (Kd.C_below HA.out (HW.out.trans (hb0.mono HW.out.size))))
      have X0 := Sd.mk (blk_new wr (.cells #[.string s, .string t] 62))
      have HB0 := Sd.mk hb0
      clear hb0
      generalize getL a s = g at HGet HX
      by_cases he : g = ⟨#[]⟩
      · subst he
        have HZ := Sd.mk (HX.out.trans (if_pos rfl))
        clear HX
        go_wp2_with fail
        refine HGet.out.mono ?_
        rintro e w1 ⟨rfl, hb1⟩
        have H1 := Sd.mk (HB0.out.trans (hb1.mono HB0.out.size))
        have c0 := (blk_cell (blk_below X0.out hb1) 0).trans rfl
        have c1 := (blk_cell (blk_below X0.out hb1) 1).trans rfl
        clear hb1
        have HO1 := Sd.mk (Kd.R_below HO.out H1.out)
        have HW1 := Sd.mk (HW.out.trans (H1.out.mono HW.out.size))
        go_wp2_with ((with_reducible refine gate_builtin (b := .append) (xs := #[.tmp 27, .tmp 29]) rfl ?_); at_builtin; refine Kd.R_append k62 (w0 := w) w.heap.size rfl (.tmp 27) (.tmp 29) 35 62 (.agg #[(.string ⟨#[]⟩), (.string ⟨#[]⟩)]) 32 rfl Tryz.underlying35 info62 rfl (by decide) (by omega) u6 all (⟨s, t⟩ : Lab) [.string s, .string t] (fun _ => True) (fun _ => False) rfl rfl ?aP (fun _ hk => hk.elim) ?aF ?aO ?aB ?aS ?aL ?_; (case aP => exact k62_mkM _ _ _ (⟨s, t⟩ : Lab)); (case aB => exact HW1.out); (case aF => exact (fun _ _ => trivial)); (case aO => exact HO1.out); (case aS => exact HW1.out.size); (case aL => have := HG.out; have := HN.out; omega); intro v7 w3 ho hb3 hg hat; have HO2 := Sd.mk ho; have HW2 := Sd.mk hb3; clear ho hb3 hg hat)
        go_roundw
        case rel => exact ⟨i + 1, all ++ [⟨s, t⟩], by omega, by go_num, HZ, ⟨by have := HG.out; simp; omega⟩, ⟨fun x hx => by
          rcases List.mem_append.1 hx with h | h
          · exact HI.out x h
          · rw [List.mem_singleton.1 h]; exact .inr HXB.out⟩, HO2, HW2⟩
        case measure => simp [intOf]; omega
      · have hX2 := HX.out
        rw [if_neg he] at hX2
        have e0 : ¬ g.toList = ([] : List UInt8) := fun h => he ((toList_eq g ⟨#[]⟩).1 (h.trans (by rw [Lib.toList_data])))
        have e1 : (g.toList == ([] : List UInt8)) = false := by simpa using e0
        have e2 : g.toList.isEmpty = false := by simpa using e0
        clear HX he
        by_cases ht : g = t
        · subst ht
          rw [if_pos rfl] at hX2
          have HZ := Sd.mk hX2
          clear hX2
          go_wp2_with fail
          refine HGet.out.mono ?_
          rintro e w1 ⟨rfl, hb1⟩
          have H1 := Sd.mk (HB0.out.trans (hb1.mono HB0.out.size))
          have c0 := (blk_cell (blk_below X0.out hb1) 0).trans rfl
          have c1 := (blk_cell (blk_below X0.out hb1) 1).trans rfl
          clear hb1
          have HO1 := Sd.mk (Kd.R_below HO.out H1.out)
          have HW1 := Sd.mk (HW.out.trans (H1.out.mono HW.out.size))
          go_wp2
          go_roundw
          case rel => exact ⟨i + 1, all, by omega, by go_num, HZ, ⟨by have := HG.out; omega⟩, HI, HO1, HW1⟩
          case measure => simp [intOf]; omega
        · rw [if_neg ht] at hX2
          have HZ := Sd.mk hX2
          have f0 : (g.toList == t.toList) = false := by rw [beq_eq_false_iff_ne]; exact fun h => ht ((toList_eq _ _).1 h)
          have f1 : ¬ g.toList = t.toList := fun h => ht ((toList_eq _ _).1 h)
          clear hX2 ht
          go_wp2_with fail
          refine HGet.out.mono ?_
          rintro e w1 ⟨rfl, hb1⟩
          have H1 := Sd.mk (HB0.out.trans (hb1.mono HB0.out.size))
          have c0 := (blk_cell (blk_below X0.out hb1) 0).trans rfl
          have c1 := (blk_cell (blk_below X0.out hb1) 1).trans rfl
          clear hb1
          have HW1 := Sd.mk (HW.out.trans (H1.out.mono HW.out.size))
          go_wp2
          go_ret2
          have er : r = ([], false) := by rw [← HRR.out]; unfold vJoinL; rw [HZ.out]
          exact ⟨.slice none 0 0, by rw [er]; rfl, by rw [er]; exact Kd.R_nil _ _ _ _ _, HW1.out⟩
    · have n1 : decide ((i : Int) < (b.length : Int)) = false := decide_eq_false (by omega)
      have n2 : decide (i < b.length) = false := decide_eq_false hlt
      have hz : joinGo a a b = some all := by rw [HT.out, List.drop_of_length_le (by omega), joinGo]
      have er0 : r = ((vMake all).1, (vMake all).2 == 0) := by rw [← HRR.out]; unfold vJoinL; rw [hz]
      have hal : all.length ≤ a.length + b.length := by have := HG.out; omega
      have hok : LabsOk all := ⟨by have := HN.out; omega, fun x hx => (HI.out x hx).elim (HLA.out.2 x) (HLB.out.2 x)⟩
      obtain ⟨A3, c3, rfl, _, hC3⟩ := Kd.R_reads HO.out
      have HM := Sd.mk (lmake_calls A3 c3 all hok (by have := HN.out; omega) wr hC3)
      generalize vMake all = m at er0 HM
      obtain ⟨ml, me⟩ := m
      simp only at er0 HM
      have ER := Sd.mk er0
      clear er0 hok hC3 hz hal HT hi hlt
      go_wp2_with fail
      refine HM.out.mono ?_
      rintro e w1 ⟨v, rfl, hv, hb1⟩
      have HV := Sd.mk (Kd.R_lower hv HW.out.size)
      have HE := Sd.mk (HW.out.trans (hb1.mono HW.out.size))
      clear hv hb1
      go_wp2
      go_ret2
      have er := ER.out
      exact ⟨v, by rw [er]; rfl, by rw [er]; exact HV.out, HE.out⟩
/-- A row that is only read, behind whatever leaves the blocks below B. -/
theorem N_under {W0 W : World} {base B : Nat} {v : Value} {xs : List Ser} (h : Kd.N k37 37 W0 base (fun k => k < B) v xs) (hb : Below B W0 W) : Kd.N k37 37 W base (fun k => k < B) v xs := Kd.N_step h (fun k hk _ => hb.block k hk)
/-- Element i of a row that is only read. -/
theorem read_at {W : World} {base : Nat} {ok : Nat → Prop} {A : Option Addr} {n c : Nat} {xs : List Ser} (HO : Kd.N k37 37 W base ok (.slice A n c) xs) (i : Nat) (hi : i < xs.length) :
    ∃ g A0 c0, A = some ⟨g, 0, none⟩ ∧ W.cell? ⟨g, i * 3, none⟩ = some (.slice A0 (xs[i]).f0.length c0) ∧ W.cell? ⟨g, i * 3 + 1, none⟩ = some (.int .i64 (xs[i]).f1.f0) ∧ W.cell? ⟨g, i * 3 + 2, none⟩ = some (.int .i64 (xs[i]).f1.f1) ∧ Kd.F k62 W ok A0 (xs[i]).f0.length (xs[i]).f0 := by
  obtain ⟨g, cp, hv, _, _, _⟩ := Kd.N_form HO (by omega)
  injection hv with hA hB hC
  subst hA
  obtain ⟨A0, c0, o0, o1, o2, l0, g0, hK⟩ := own_at HO i hi
  refine ⟨g, A0, c0, rfl, o0, o1, o2, fun W' hW => ?_⟩
  obtain ⟨A1, c1, e, _, g1⟩ := k37_open (hK W' (fun k hk hlt => hW k hk.1 hlt))
  injection e with e _
  injection e with e _ _
  subst e
  exact g1
theorem FK_new {W : World} {ok : Nat → Prop} {A : Option Addr} {c : Nat} {x : List Lab} {k n : Int} (h : Kd.F k62 W ok A x.length x) (hc : x.length ≤ c) : Kd.FK k37 W ok (⟨x, ⟨k, n⟩⟩ : Ser) [.slice A x.length c, .int .i64 k, .int .i64 n] := fun W' hW => k37_mk W' (⟨x, ⟨k, n⟩⟩ : Ser) hc (h W' hW)
theorem own_ne {W : World} {v v1 : Value} {b : Nat} (hat : v1.ownBlock = v.ownBlock ∨ ∃ b, v1.ownBlock = some b ∧ W.heap.size ≤ b) (hne : some b ≠ v.ownBlock) (hb : b < W.heap.size) : some b ≠ v1.ownBlock := by
  rcases hat with h | ⟨b', h, hle⟩
  · rw [h]; exact hne
  · rw [h]
    intro e
    injection e with e
    omega
theorem sjoin_calls (op : ByteArray) (A B : Option Addr) (c d : Nat) (a b : List Ser) (ha : SersOk a) (hb : SersOk b) (w : World) (hA : Kd.C k37 w A a.length a) (hB : Kd.C k37 w B b.length b) :
    Calls Tryz.prog 19 #[.string op, .slice A a.length c, .slice B b.length d] w fun e w' => ∃ v : Value, e = .returned (.tuple #[v, .int .i64 (vJoin op a b).2]) ∧ Kd.N k37 37 w' w.heap.size (fun _ => True) v (vJoin op a b).1 ∧ Below w.heap.size w w' := by
  have HSa := Sd.mk (ssort_calls A c a ha w hA)
  have HSb := Sd.mk (fun (w1 : World) (h : Below w.heap.size w w1) => ssort_calls B d b hb w1 (Kd.C_below hB h))
  have HK := Sd.mk (fun w1 => knows2_calls op w1)
  have HMa := Sd.mk (fun (h : (vSort a).2 = 0) => And.intro (fun x hx => (vSort_ok h).1 x ((vSort_mem h).1 hx)) (vSort_len h))
  have HMb := Sd.mk (fun (h : (vSort b).2 = 0) => And.intro (fun x hx => (vSort_ok h).1 x ((vSort_mem h).1 hx)) (vSort_len h))
  unfold vJoin
  clear ha hb hA hB
  generalize vSort a = ra at HSa HMa ⊢
  generalize vSort b = rb at HSb HMb ⊢
  obtain ⟨p, e1⟩ := ra
  obtain ⟨q, e2⟩ := rb
  simp only at HSa HSb HMa HMb ⊢
  generalize (vDo op [(1, 0), (1, 0)]).2 = kn at HK ⊢
  have mixed : Tryz.prog.follows .mixedOrders = true := by kernel_rfl
  by_cases h1 : e1 = 0
  · subst h1
    rw [if_pos rfl]
    by_cases h2 : e2 = 0
    · subst h2
      rw [if_pos rfl]
      by_cases hk : kn = 0
      · rw [if_pos hk]
        rw [decide_eq_true hk] at HK
        clear hk
        have hPs := (HMa.out rfl).1
        have hQs := (HMb.out rfl).1
        have lp := (HMa.out rfl).2
        have lq := (HMb.out rfl).2
        have HPs := Sd.mk hPs
        have HQs := Sd.mk hQs
        have HOK := Sd.mk (pairsJ_ok (op := op) hPs hQs lp lq)
        clear hPs hQs HMa HMb
        go_enter Tryz.func19, Tryz.ntmps19
        go_wp2_with fail
        refine HSa.out.mono ?_
        rintro e w1 ⟨va, rfl, hva, hb1⟩
        have HB1 := Sd.mk hb1
        have HSb1 := Sd.mk (HSb.out w1 hb1)
        obtain ⟨A3, c3, rfl, _, _⟩ := Kd.N_reads hva
        have HVa := Sd.mk hva
        clear hva hb1 HSb HSa
        go_wp2_with fail
        refine HSb1.out.mono ?_
        rintro e w2 ⟨vb, rfl, hvb, hb2⟩
        have HB2 := Sd.mk (HB1.out.trans (hb2.mono HB1.out.size))
        have HVa2 := Sd.mk (Kd.N_below HVa.out hb2)
        obtain ⟨B3, d3, rfl, _, _⟩ := Kd.N_reads hvb
        have HVb2 := Sd.mk (Kd.N_lower hvb HB1.out.size)
        clear hvb hb2 HB1 HVa HSb1
        go_wp2_with fail
        refine (HK.out w2).mono ?_
        rintro e w3 ⟨rfl, hb3⟩
        have HB3 := Sd.mk (HB2.out.trans (hb3.mono HB2.out.size))
        have HPa := Sd.mk (Kd.N_mono (Kd.N_bound (Kd.N_below HVa2.out hb3)) (ok' := fun k => k < w3.heap.size) (fun k hk => hk.2))
        have HPb := Sd.mk (Kd.N_mono (Kd.N_bound (Kd.N_below HVb2.out hb3)) (ok' := fun k => k < w3.heap.size) (fun k hk => hk.2))
        clear hb3 HVa2 HVb2 HB2
        go_wp2
        go_loopw [6, 39] (fun v6 v39 wr => ∃ i : Nat, i ≤ p.length ∧ v39 = .int .i64 i ∧ Sd (Kd.N k37 37 wr w3.heap.size (fun _ => True) v6 (pairsJ op (p.take i) q)) ∧ Sd (Below w3.heap.size w3 wr)) (fun _ v39 _ => p.length - (intOf v39).toNat)
        case atStart => exact ⟨0, Nat.zero_le _, rfl, ⟨Kd.N_nil _ _ _ _ _⟩, ⟨Below.refl _ _⟩⟩
        case round =>
          obtain ⟨i, hi, rfl, HO, HW⟩ := hrel
          rename World => wo
          by_cases hlt : i < p.length
          · have b1 : (i : Int) < (p.length : Int) := by omega
            obtain ⟨ga, Ax, cx, hAe, x0, x1, x2, hFx⟩ := read_at (N_under HPa.out HW.out) i hlt
            subst hAe
            have HPst := Sd.mk (pairsJ_step op p q i hlt)
            have HxS := Sd.mk (HPs.out _ (List.getElem_mem hlt))
            have HFx := Sd.mk (Kd.F_bound hFx)
            have HoL := Sd.mk (Nat.le_trans (pairsJ_len op q (p.take i)) (Nat.mul_le_mul (by rw [List.length_take]; omega : (p.take i).length ≤ 200) lq))
            generalize p[i] = x at x0 x1 x2 hFx HPst HxS HFx
            clear hFx
            have HX := Sd.mk (blk_new wo (.cells #[.slice Ax x.f0.length cx, .int .i64 x.f1.f0, .int .i64 x.f1.f1] 37))
            have HWx := Sd.mk (bal HW.out (.cells #[.slice Ax x.f0.length cx, .int .i64 x.f1.f0, .int .i64 x.f1.f1] 37))
            have HOx := Sd.mk (Kd.N_alloc HO.out (.cells #[.slice Ax x.f0.length cx, .int .i64 x.f1.f0, .int .i64 x.f1.f1] 37))
            have HNx := Sd.mk (show some wo.heap.size ≠ u6.ownBlock from fun e => Nat.lt_irrefl _ (Kd.N_lt HO.out _ e.symm))
            have Hbx := Sd.mk (show w3.heap.size ≤ wo.heap.size from HW.out.size)
            go_wp2
            generalize hout : pairsJ op (p.take i) q = out0 at HO HPst HoL HOx
            clear hout
            go_loopw [6, 45] (fun v6 v45 wr2 => ∃ j : Nat, j ≤ q.length ∧ v45 = .int .i64 j ∧ Sd (Kd.N k37 37 wr2 w3.heap.size (fun _ => True) v6 (out0 ++ rowJ op x (q.take j))) ∧ Sd (Below w3.heap.size w3 wr2) ∧ Sd (wr2.heap[wo.heap.size]? = some (.cells #[.slice Ax x.f0.length cx, .int .i64 x.f1.f0, .int .i64 x.f1.f1] 37 (0, 0))) ∧ Sd (some wo.heap.size ≠ v6.ownBlock)) (fun _ v45 _ => q.length - (intOf v45).toNat)
            case atStart => exact ⟨0, Nat.zero_le _, rfl, ⟨by simpa [rowJ] using HOx.out⟩, HWx, HX, HNx⟩
            case round =>
              clear HOx HWx HX HNx
              obtain ⟨j, hj, rfl, HO2, HW2, HX2, HN2⟩ := hrel
              by_cases hlj : j < q.length
              · have b2 : (j : Int) < (q.length : Int) := by omega
                obtain ⟨gb, Ay, cy, hBe, y0, y1, y2, hFy⟩ := read_at (N_under HPb.out HW2.out) j hlj
                subst hBe
                have HRs := Sd.mk (rowJ_step op x q j hlj)
                have HyS := Sd.mk (HQs.out _ (List.getElem_mem hlj))
                have HLen := Sd.mk (show ((out0 ++ rowJ op x (q.take j)).length + 1) * 40 ≤ 140737488355328 by
                  have e1 := rowJ_len op x (q.take j)
                  have e2 : (q.take j).length ≤ 200 := by rw [List.length_take]; omega
                  have e3 := HoL.out
                  have e4 : 200 * q.length ≤ 200 * 200 := Nat.mul_le_mul (Nat.le_refl _) lq
                  rw [List.length_append]; omega)
                generalize q[j] = y at y0 y1 y2 hFy HRs HyS
                have HY := Sd.mk (below1 wr (.cells #[.slice Ay y.f0.length cy, .int .i64 y.f1.f0, .int .i64 y.f1.f1] 37))
                have HCy := Sd.mk (Kd.C_below (Kd.F_now hFy) HY.out)
                have HCx := Sd.mk (Kd.C_below (Kd.F_now (Kd.F_step HFx.out (fun k hk _ => (HW2.out.block k hk.1).trans (HW.out.block k hk.1).symm))) HY.out)
                have YB := blk_new wr (.cells #[.slice Ay y.f0.length cy, .int .i64 y.f1.f0, .int .i64 y.f1.f1] 37)
                have g0 := (blk_cell YB 0).trans rfl
                have g1 := (blk_cell YB 1).trans rfl
                have g2 := (blk_cell YB 2).trans rfl
                have c0 := (blk_cell (blk_below HX2.out HY.out) 0).trans rfl
                have c1 := (blk_cell (blk_below HX2.out HY.out) 1).trans rfl
                have c2 := (blk_cell (blk_below HX2.out HY.out) 2).trans rfl
                clear YB hFy
                have HOY := Sd.mk (Kd.N_below HO2.out HY.out)
                have HWY := Sd.mk (HW2.out.trans (HY.out.mono HW2.out.size))
                have HI1 := Sd.mk (fun (w5 : World) (h : Below (wr.alloc (.cells #[.slice Ay y.f0.length cy, .int .i64 y.f1.f0, .int .i64 y.f1.f1] 37)).heap.size (wr.alloc (.cells #[.slice Ay y.f0.length cy, .int .i64 y.f1.f0, .int .i64 y.f1.f1] 37)) w5) => within_calls Ax Ay cx cy x.f0 y.f0 w5 (Kd.C_below HCx.out h) (Kd.C_below HCy.out h))
                have HI2 := Sd.mk (fun (w5 : World) (h : Below (wr.alloc (.cells #[.slice Ay y.f0.length cy, .int .i64 y.f1.f0, .int .i64 y.f1.f1] 37)).heap.size (wr.alloc (.cells #[.slice Ay y.f0.length cy, .int .i64 y.f1.f0, .int .i64 y.f1.f1] 37)) w5) => within_calls Ay Ax cy cx y.f0 x.f0 w5 (Kd.C_below HCy.out h) (Kd.C_below HCx.out h))
                unfold fits at HRs
                generalize inC x.f0 y.f0 = k1 at HRs HI1
                generalize inC y.f0 x.f0 = k2 at HRs HI2
                cases k1 with
                | true =>
                  have HRt := Sd.mk (HRs.out.trans (by rfl : (rowJ op x (List.take j q) ++ (if (true || k2) = true then [joinS op x y] else [])) = rowJ op x (List.take j q) ++ [joinS op x y]))
                  go_wp2_with fail
                  refine (HI1.out _ (Below.refl _ _)).mono ?_
                  rintro e w6 ⟨rfl, hb6⟩
                  have HB6 := Sd.mk hb6
                  replace c0 := pw_cell_below hb6 c0
                  replace c1 := pw_cell_below hb6 c1
                  replace c2 := pw_cell_below hb6 c2
                  replace g0 := pw_cell_below hb6 g0
                  replace g1 := pw_cell_below hb6 g1
                  replace g2 := pw_cell_below hb6 g2
                  clear hb6 HI1 HI2 HRs
                  have HO6 := Sd.mk (Kd.N_below HO2.out (HY.out.trans (HB6.out.mono HY.out.size)))
                  go_wp2_with fail
                  refine (ljoin_calls Ax Ay cx cy x.f0 y.f0 (set_ok HxS.out).1 (set_ok HyS.out).1 (by have := (set_ok HxS.out).2; have := (set_ok HyS.out).2; omega) w6 (Kd.C_below HCx.out HB6.out) (Kd.C_below HCy.out HB6.out)).mono ?_
                  rintro e w7 ⟨vj, rfl, hvj, hb7⟩
                  obtain ⟨Aj, cj, rfl, hcj, hrd⟩ := Kd.R_reads hvj
                  clear hrd
                  have HVj := Sd.mk (Kd.R_mono (Kd.R_bound hvj) (ok' := fun k => w6.heap.size ≤ k) (fun k hk => hk.2.1))
                  have HB7 := Sd.mk (HB6.out.trans (hb7.mono HB6.out.size))
                  have Hcj := Sd.mk hcj
                  have HN6 := Sd.mk (fun k (hk : w6.heap.size ≤ k) => And.intro True.intro (fun (e : some k = u6.ownBlock) => Nat.lt_irrefl _ (Nat.lt_of_lt_of_le (Kd.N_lt HO6.out k e.symm) hk)))
                  replace c0 := pw_cell_below hb7 c0
                  replace c1 := pw_cell_below hb7 c1
                  replace c2 := pw_cell_below hb7 c2
                  replace g0 := pw_cell_below hb7 g0
                  replace g1 := pw_cell_below hb7 g1
                  replace g2 := pw_cell_below hb7 g2
                  clear hvj hb7 hcj HO6
                  have HR2 := Sd.mk (HRt.out.trans (congrArg (fun z => rowJ op x (List.take j q) ++ [z]) (show joinS op x y = ⟨(vJoinL x.f0 y.f0).1, ⟨(vDo op [(x.f1.f0, x.f1.f1), (y.f1.f0, y.f1.f1)]).1.1, (vDo op [(x.f1.f0, x.f1.f1), (y.f1.f0, y.f1.f1)]).1.2⟩⟩ from rfl)))
                  rcases hdo : vDo op [(x.f1.f0, x.f1.f1), (y.f1.f0, y.f1.f1)] with ⟨⟨r1, r2⟩, r3⟩
                  have HD := Sd.mk (do2_any op x.f1.f0 x.f1.f1 y.f1.f0 y.f1.f1 w7 hdo)
                  rw [hdo] at HR2
                  clear hdo
                  generalize hjr : vJoinL x.f0 y.f0 = jr at HVj Hcj HR2 ⊢
                  obtain ⟨jl, jb⟩ := jr
                  simp only at HVj Hcj HR2 ⊢
                  clear hjr
                  go_wp2_with fail
                  refine HD.out.mono ?_
                  rintro e w8 ⟨rfl, hb8⟩
                  have HB8 := Sd.mk (HB7.out.trans ((hb8.mono (Nat.le_refl _)).mono HB7.out.size))
                  have hba := bal hb8 (.cells #[.int .i64 r1, .int .i64 r2] 25)
                  have hbb := bal HB8.out (.cells #[.int .i64 r1, .int .i64 r2] 25)
                  have HVW := Sd.mk (Kd.R_below HVj.out hba)
                  have HOW := Sd.mk (Kd.N_below HO2.out (HY.out.trans (hbb.mono HY.out.size)))
                  have HWW := Sd.mk (HW2.out.trans ((HY.out.trans (hbb.mono HY.out.size)).mono HW2.out.size))
                  have HXW := Sd.mk (blk_below HX2.out (HY.out.trans (hbb.mono HY.out.size)))
                  clear hb8 hba hbb c0 c1 c2 g0 g1 g2
                  go_wp2_with ((with_reducible refine gate_builtin (b := .append) (xs := #[.tmp 81, .tmp 85]) rfl ?_); at_builtin; refine Kd.N_append k37 (w0 := w3) w3.heap.size rfl (.tmp 81) (.tmp 85) 33 37 (.agg #[(.slice none 0 0), (.int .i64 0), (.int .i64 0)]) 40 rfl Tryz.underlying33 info37 rfl (by decide) (by omega) u6 (out0 ++ rowJ op x (List.take j q)) (⟨jl, ⟨r1, r2⟩⟩ : Ser) [.slice Aj jl.length cj, .int .i64 r1, .int .i64 r2] (fun _ => True) (fun k => w6.heap.size ≤ k) rfl ?aX ?aP ?aK ?aF ?aO ?aB ?aS ?aL ?_; (case aX => first | rfl | (go_simp; done)); (case aP => exact FK_new (Kd.R_F HVW.out) Hcj.out); (case aK => exact HN6.out); (case aF => exact (fun _ _ => trivial)); (case aO => exact HOW.out); (case aB => exact HWW.out); (case aS => exact HWW.out.size); (case aL => exact HLen.out); intro v7 w9 ho hb9 hg9 hat9; have HO9 := Sd.mk ho; have HW9 := Sd.mk hb9; have HX9 := Sd.mk ((hg9.block _ (Array.getElem?_eq_some_iff.1 HXW.out).1 HN2.out).trans HXW.out); have HN9 := Sd.mk (own_ne hat9 HN2.out (Array.getElem?_eq_some_iff.1 HXW.out).1); clear ho hb9 hg9 hat9)
                  go_roundw
                  case rel => exact ⟨j + 1, by omega, by go_num, ⟨by rw [HR2.out, ← List.append_assoc]; exact HO9.out⟩, HW9, HX9, HN9⟩
                  case measure => simp [intOf]; omega
                | false =>
                  cases k2 with
                  | true =>
                    have HRt := Sd.mk (HRs.out.trans (by rfl : (rowJ op x (List.take j q) ++ (if (false || true) = true then [joinS op x y] else [])) = rowJ op x (List.take j q) ++ [joinS op x y]))
                    go_wp2_with fail
                    refine (HI1.out _ (Below.refl _ _)).mono ?_
                    rintro e w5 ⟨rfl, hb5⟩
                    have HB5 := Sd.mk hb5
                    have HC5 := Sd.mk (HI2.out w5 hb5)
                    replace c0 := pw_cell_below hb5 c0
                    replace c1 := pw_cell_below hb5 c1
                    replace c2 := pw_cell_below hb5 c2
                    replace g0 := pw_cell_below hb5 g0
                    replace g1 := pw_cell_below hb5 g1
                    replace g2 := pw_cell_below hb5 g2
                    clear hb5 HI1 HI2 HRs
                    go_wp2_with fail
                    refine HC5.out.mono ?_
                    rintro e w6 ⟨rfl, hb6⟩
                    have HB6 := Sd.mk (HB5.out.trans (hb6.mono HB5.out.size))
                    replace c0 := pw_cell_below hb6 c0
                    replace c1 := pw_cell_below hb6 c1
                    replace c2 := pw_cell_below hb6 c2
                    replace g0 := pw_cell_below hb6 g0
                    replace g1 := pw_cell_below hb6 g1
                    replace g2 := pw_cell_below hb6 g2
                    clear hb6 HC5 HB5
                    have HO6 := Sd.mk (Kd.N_below HO2.out (HY.out.trans (HB6.out.mono HY.out.size)))
                    go_wp2_with fail
                    refine (ljoin_calls Ax Ay cx cy x.f0 y.f0 (set_ok HxS.out).1 (set_ok HyS.out).1 (by have := (set_ok HxS.out).2; have := (set_ok HyS.out).2; omega) w6 (Kd.C_below HCx.out HB6.out) (Kd.C_below HCy.out HB6.out)).mono ?_
                    rintro e w7 ⟨vj, rfl, hvj, hb7⟩
                    obtain ⟨Aj, cj, rfl, hcj, hrd⟩ := Kd.R_reads hvj
                    clear hrd
                    have HVj := Sd.mk (Kd.R_mono (Kd.R_bound hvj) (ok' := fun k => w6.heap.size ≤ k) (fun k hk => hk.2.1))
                    have HB7 := Sd.mk (HB6.out.trans (hb7.mono HB6.out.size))
                    have Hcj := Sd.mk hcj
                    have HN6 := Sd.mk (fun k (hk : w6.heap.size ≤ k) => And.intro True.intro (fun (e : some k = u6.ownBlock) => Nat.lt_irrefl _ (Nat.lt_of_lt_of_le (Kd.N_lt HO6.out k e.symm) hk)))
                    replace c0 := pw_cell_below hb7 c0
                    replace c1 := pw_cell_below hb7 c1
                    replace c2 := pw_cell_below hb7 c2
                    replace g0 := pw_cell_below hb7 g0
                    replace g1 := pw_cell_below hb7 g1
                    replace g2 := pw_cell_below hb7 g2
                    clear hvj hb7 hcj HO6
                    have HR2 := Sd.mk (HRt.out.trans (congrArg (fun z => rowJ op x (List.take j q) ++ [z]) (show joinS op x y = ⟨(vJoinL x.f0 y.f0).1, ⟨(vDo op [(x.f1.f0, x.f1.f1), (y.f1.f0, y.f1.f1)]).1.1, (vDo op [(x.f1.f0, x.f1.f1), (y.f1.f0, y.f1.f1)]).1.2⟩⟩ from rfl)))
                    rcases hdo : vDo op [(x.f1.f0, x.f1.f1), (y.f1.f0, y.f1.f1)] with ⟨⟨r1, r2⟩, r3⟩
                    have HD := Sd.mk (do2_any op x.f1.f0 x.f1.f1 y.f1.f0 y.f1.f1 w7 hdo)
                    rw [hdo] at HR2
                    clear hdo
                    generalize hjr : vJoinL x.f0 y.f0 = jr at HVj Hcj HR2 ⊢
                    obtain ⟨jl, jb⟩ := jr
                    simp only at HVj Hcj HR2 ⊢
                    clear hjr
                    go_wp2_with fail
                    refine HD.out.mono ?_
                    rintro e w8 ⟨rfl, hb8⟩
                    have HB8 := Sd.mk (HB7.out.trans ((hb8.mono (Nat.le_refl _)).mono HB7.out.size))
                    have hba := bal hb8 (.cells #[.int .i64 r1, .int .i64 r2] 25)
                    have hbb := bal HB8.out (.cells #[.int .i64 r1, .int .i64 r2] 25)
                    have HVW := Sd.mk (Kd.R_below HVj.out hba)
                    have HOW := Sd.mk (Kd.N_below HO2.out (HY.out.trans (hbb.mono HY.out.size)))
                    have HWW := Sd.mk (HW2.out.trans ((HY.out.trans (hbb.mono HY.out.size)).mono HW2.out.size))
                    have HXW := Sd.mk (blk_below HX2.out (HY.out.trans (hbb.mono HY.out.size)))
                    clear hb8 hba hbb c0 c1 c2 g0 g1 g2
                    go_wp2_with ((with_reducible refine gate_builtin (b := .append) (xs := #[.tmp 81, .tmp 85]) rfl ?_); at_builtin; refine Kd.N_append k37 (w0 := w3) w3.heap.size rfl (.tmp 81) (.tmp 85) 33 37 (.agg #[(.slice none 0 0), (.int .i64 0), (.int .i64 0)]) 40 rfl Tryz.underlying33 info37 rfl (by decide) (by omega) u6 (out0 ++ rowJ op x (List.take j q)) (⟨jl, ⟨r1, r2⟩⟩ : Ser) [.slice Aj jl.length cj, .int .i64 r1, .int .i64 r2] (fun _ => True) (fun k => w6.heap.size ≤ k) rfl ?aX ?aP ?aK ?aF ?aO ?aB ?aS ?aL ?_; (case aX => first | rfl | (go_simp; done)); (case aP => exact FK_new (Kd.R_F HVW.out) Hcj.out); (case aK => exact HN6.out); (case aF => exact (fun _ _ => trivial)); (case aO => exact HOW.out); (case aB => exact HWW.out); (case aS => exact HWW.out.size); (case aL => exact HLen.out); intro v7 w9 ho hb9 hg9 hat9; have HO9 := Sd.mk ho; have HW9 := Sd.mk hb9; have HX9 := Sd.mk ((hg9.block _ (Array.getElem?_eq_some_iff.1 HXW.out).1 HN2.out).trans HXW.out); have HN9 := Sd.mk (own_ne hat9 HN2.out (Array.getElem?_eq_some_iff.1 HXW.out).1); clear ho hb9 hg9 hat9)
                    go_roundw
                    case rel => exact ⟨j + 1, by omega, by go_num, ⟨by rw [HR2.out, ← List.append_assoc]; exact HO9.out⟩, HW9, HX9, HN9⟩
                    case measure => simp [intOf]; omega
                  | false =>
                    have HRt := Sd.mk (HRs.out.trans (by exact List.append_nil _ : (rowJ op x (List.take j q) ++ (if (false || false) = true then [joinS op x y] else [])) = rowJ op x (List.take j q)))
                    go_wp2_with fail
                    refine (HI1.out _ (Below.refl _ _)).mono ?_
                    rintro e w5 ⟨rfl, hb5⟩
                    have HB5 := Sd.mk hb5
                    have HC5 := Sd.mk (HI2.out w5 hb5)
                    replace c0 := pw_cell_below hb5 c0
                    replace c1 := pw_cell_below hb5 c1
                    replace c2 := pw_cell_below hb5 c2
                    replace g0 := pw_cell_below hb5 g0
                    replace g1 := pw_cell_below hb5 g1
                    replace g2 := pw_cell_below hb5 g2
                    clear hb5 HI1 HI2 HRs
                    go_wp2_with fail
                    refine HC5.out.mono ?_
                    rintro e w6 ⟨rfl, hb6⟩
                    have hb7 := HY.out.trans ((HB5.out.trans (hb6.mono HB5.out.size)).mono HY.out.size)
                    have HO6 := Sd.mk (Kd.N_below HO2.out hb7)
                    have HW6 := Sd.mk (HW2.out.trans (hb7.mono HW2.out.size))
                    have HX6 := Sd.mk (blk_below HX2.out hb7)
                    clear hb6 hb7 HC5 HB5 c0 c1 c2 g0 g1 g2
                    go_wp2
                    go_roundw
                    case rel => exact ⟨j + 1, by omega, by go_num, ⟨by rw [HRt.out]; exact HO6.out⟩, HW6, HX6, HN2⟩
                    case measure => simp [intOf]; omega
              · have m1 : decide ((j : Int) < (q.length : Int)) = false := decide_eq_false (by omega)
                have m2 : decide (j < q.length) = false := decide_eq_false hlj
                have hj' : j = q.length := by omega
                have HE := Sd.mk (show pairsJ op (p.take (i + 1)) q = out0 ++ rowJ op x (q.take j) by rw [HPst.out, hj', List.take_length])
                clear hj' hlj hj
                go_wp2
                go_roundw
                case rel => exact ⟨i + 1, by omega, by go_num, ⟨by rw [HE.out]; exact HO2.out⟩, HW2⟩
                case measure => simp [intOf]; omega
          · have n1 : decide ((i : Int) < (p.length : Int)) = false := decide_eq_false (by omega)
            have n2 : decide (i < p.length) = false := decide_eq_false hlt
            have hi' : i = p.length := by omega
            have HE := Sd.mk (show pairsJ op (p.take i) q = pairsJ op p q by rw [hi', List.take_length])
            rw [HE.out] at HO
            obtain ⟨A6, c6, rfl, _, hC6⟩ := Kd.N_reads HO.out
            have HS := Sd.mk (ssort_calls A6 c6 (pairsJ op p q) HOK.out wo hC6)
            rcases hsr : vSort (pairsJ op p q) with ⟨sl, se⟩
            rw [hsr] at HS
            have HSR := Sd.mk hsr
            clear hsr
            clear hi' hlt hi hC6 HE HO
            go_wp2_with fail
            refine HS.out.mono ?_
            rintro e w9 ⟨v9, rfl, hv9, hb9⟩
            have hw3 := HB3.out.size
            have HV9 := Sd.mk (Kd.N_lower hv9 (Nat.le_trans hw3 HW.out.size))
            have HB9 := Sd.mk (HB3.out.trans ((HW.out.trans (hb9.mono HW.out.size)).mono hw3))
            clear hv9 hb9 hw3
            go_wp2
            go_ret2
            exact ⟨v9, by rw [HSR.out]; rfl, by rw [HSR.out]; exact HV9.out, HB9.out⟩
      · rw [if_neg hk]
        rw [decide_eq_false hk] at HK
        clear hk HMa HMb
        go_enter Tryz.func19, Tryz.ntmps19
        go_wp2_with fail
        refine HSa.out.mono ?_
        rintro e w1 ⟨va, rfl, hva, hb1⟩
        have HB1 := Sd.mk hb1
        have HSb1 := Sd.mk (HSb.out w1 hb1)
        clear hva hb1 HSb HSa
        go_wp2_with fail
        refine HSb1.out.mono ?_
        rintro e w2 ⟨vb, rfl, hvb, hb2⟩
        have HB2 := Sd.mk (HB1.out.trans (hb2.mono HB1.out.size))
        clear hvb hb2 HB1 HSb1
        go_wp2_with fail
        refine (HK.out w2).mono ?_
        rintro e w3 ⟨rfl, hb3⟩
        have HB3 := Sd.mk (HB2.out.trans (hb3.mono HB2.out.size))
        clear hb3
        go_wp2
        go_ret2
        exact ⟨.slice none 0 0, rfl, Kd.N_nil _ _ _ _ _, HB3.out⟩
    · rw [if_neg h2]
      have n0 : (e2 == 0) = false := by simpa using h2
      have n1 : (e2 != 0) = true := by simpa using h2
      clear h2 HMa HMb HK
      go_enter Tryz.func19, Tryz.ntmps19
      go_wp2_with fail
      refine HSa.out.mono ?_
      rintro e w1 ⟨va, rfl, hva, hb1⟩
      have HB1 := Sd.mk hb1
      have HSb1 := Sd.mk (HSb.out w1 hb1)
      clear hva hb1 HSb HSa
      go_wp2_with fail
      refine HSb1.out.mono ?_
      rintro e w2 ⟨vb, rfl, hvb, hb2⟩
      have HB2 := Sd.mk (HB1.out.trans (hb2.mono HB1.out.size))
      clear hvb hb2 HB1 HSb1
      go_wp2
      go_ret2
      exact ⟨.slice none 0 0, rfl, Kd.N_nil _ _ _ _ _, HB2.out⟩
  · rw [if_neg h1]
    have n0 : (e1 == 0) = false := by simpa using h1
    have n1 : (e1 != 0) = true := by simpa using h1
    clear h1 HMa HMb HK HSb
    go_enter Tryz.func19, Tryz.ntmps19
    go_wp2_with fail
    refine HSa.out.mono ?_
    rintro e w1 ⟨va, rfl, hva, hb1⟩
    have HB1 := Sd.mk hb1
    clear hva hb1 HSa
    go_wp2
    go_ret2
    exact ⟨.slice none 0 0, rfl, Kd.N_nil _ _ _ _ _, HB1.out⟩
/-- Blocks that stand: what each holds, of what type. -/
structure Bk (w : World) (L : List (Nat × Array Value × TypeId)) (w1 : World) : Prop where
  b : Below w.heap.size w w1
  r : ∀ x ∈ L, w1.heap[x.1]? = some (.cells x.2.1 x.2.2 (0, 0))
theorem Bk.start (w : World) : Bk w [] w := ⟨Below.refl _ _, fun x h => by cases h⟩
theorem Bk.below {w w1 w2 : World} {L : List (Nat × Array Value × TypeId)} (h : Bk w L w1) (hb : Below w1.heap.size w1 w2) : Bk w L w2 :=
  ⟨h.b.trans (hb.mono h.b.size), fun x hx => blk_below (h.r x hx) hb⟩
theorem Bk.push {w w1 : World} {L : List (Nat × Array Value × TypeId)} (h : Bk w L w1) (cs : Array Value) (t : TypeId) : Bk w ((w1.heap.size, cs, t) :: L) (w1.alloc (.cells cs t)) :=
  ⟨(h.below (below1 w1 _)).b, fun x hx => by
    rcases List.mem_cons.1 hx with rfl | hx
    · exact blk_new w1 _
    · exact (h.below (below1 w1 _)).r x hx⟩
theorem Bk.get {w w1 : World} {L : List (Nat × Array Value × TypeId)} (h : Bk w L w1) {n : Nat} {cs : Array Value} {t : TypeId} (hx : (n, cs, t) ∈ L) : w1.heap[n]? = some (.cells cs t (0, 0)) := h.r _ hx
theorem Bk.cell {w w1 : World} {L : List (Nat × Array Value × TypeId)} (h : Bk w L w1) {n : Nat} {cs : Array Value} {t : TypeId} (hx : (n, cs, t) ∈ L) {i : Nat} {u : Value} (hu : cs[i]? = some u) : w1.cell? ⟨n, i, none⟩ = some u := (blk_cell (h.r _ hx) i).trans hu
theorem flat_get {α : Type} (sz : Nat) : ∀ (xs : List (α × List Value)) (j : Nat) (p : α × List Value), (∀ q ∈ xs, q.2.length = sz) → xs[j]? = some p → ∀ i u, p.2[i]? = some u → (xs.flatMap (·.2))[j * sz + i]? = some u
  | [], j, p, _, h, _, _, _ => by simp at h
  | q :: xs, 0, p, hs, h, i, u, hu => by
    simp only [List.getElem?_cons_zero, Option.some.injEq] at h
    subst h
    rw [List.flatMap_cons, Nat.zero_mul, Nat.zero_add, List.getElem?_append_left (List.getElem?_eq_some_iff.1 hu).1]
    exact hu
  | q :: xs, j + 1, p, hs, h, i, u, hu => by
    simp only [List.getElem?_cons_succ] at h
    have ih := flat_get sz xs j p (fun r hr => hs r (List.mem_cons_of_mem _ hr)) h i u hu
    have hl := hs q List.mem_cons_self
    rw [List.flatMap_cons, List.getElem?_append_right (by rw [hl, Nat.add_mul]; omega)]
    rw [show (j + 1) * sz + i - q.2.length = j * sz + i by rw [hl, Nat.add_mul]; omega]
    exact ih
/-- A row whose cells stand in a block: what they read as. -/
theorem row_of {α : Type} (d : Kd α) {W : World} {g : Nat} {t : TypeId} (xs : List (α × List Value)) (hk : ∀ q ∈ xs, d.K W q.1 q.2) (hm : xs.length ≤ 9223372036854775807) (h : W.heap[g]? = some (.cells (xs.flatMap (·.2)).toArray t (0, 0))) : Kd.C d W (some ⟨g, 0, none⟩) xs.length (xs.map (·.1)) := by
  refine ⟨by simp, hm, fun _ => ⟨_, rfl, fun j p hp => ?_⟩⟩
  rw [List.getElem?_map] at hp
  obtain ⟨q, hq, rfl⟩ := Option.map_eq_some_iff.1 hp
  have hmem := List.mem_of_getElem? hq
  refine ⟨q.2, d.K_len (hk q hmem), hk q hmem, fun i u hu => ?_⟩
  rw [add_at, Nat.zero_add, blk_cell h]
  rw [List.getElem?_toArray]
  exact flat_get d.sz xs j q (fun r hr => d.K_len (hk r hr)) hq i u hu
theorem rnum_calls (n : Int) (h0 : -1000000000000000 ≤ n) (h1 : n ≤ 1000000000000000) (w : World) : Calls Tryz.prog 27 #[.int .i64 n] w fun e w' => e = .returned (.agg #[.int .i64 1, .int .i64 n]) ∧ Below w.heap.size w w' :=
  r8_Num.calls n 1 n w (by unfold r8_Num.f; rw [if_neg (by omega), if_neg (by omega)])
theorem rnull_calls (w : World) : Calls Tryz.prog 28 #[] w fun e w' => e = .returned (.agg #[.int .i64 2, .int .i64 0]) ∧ Below w.heap.size w w' := r8_Null.calls 2 0 w rfl
theorem rnan_calls (w : World) : Calls Tryz.prog 29 #[] w fun e w' => e = .returned (.agg #[.int .i64 3, .int .i64 0]) ∧ Below w.heap.size w w' := r8_NaN.calls 3 0 w rfl
/-- The document's 'same' of two that are. -/
theorem same_calls (A B : Option Addr) (c d : Nat) (l : List Ser) (hl : SersOk l) (w : World) (hA : Kd.C k37 w A l.length l) (hc : l.length ≤ c) (hB : Kd.C k37 w B l.length l) (hd : l.length ≤ d) :
    Calls Tryz.prog 16 #[.slice A l.length c, .slice B l.length d] w fun e w' => e = .returned (.bool true) ∧ Below w.heap.size w w' := by
  obtain ⟨k, hk⟩ := (sameS_ev l hl).rounds
  refine (r10_Same.calls k A c l B d l true w hA hc hB hd hk).mono fun e w' ⟨he, hw⟩ => ⟨he, ?_⟩
  obtain ⟨n, rfl⟩ := hw
  exact pbd (Below.refl _ _) n
abbrev liveP : List Pt := [⟨0, ⟨1, 1000⟩⟩, ⟨0, ⟨1, 2000⟩⟩, ⟨0, ⟨2, 0⟩⟩]
abbrev lx : List Lab := [⟨⟨#[97]⟩, ⟨#[49]⟩⟩]
abbrev ly : List Lab := [⟨⟨#[97]⟩, ⟨#[49]⟩⟩, ⟨⟨#[98]⟩, ⟨#[49]⟩⟩]
abbrev lz : List Lab := [⟨⟨#[97]⟩, ⟨#[50]⟩⟩]
abbrev sx : Ser := ⟨lx, ⟨1, 1⟩⟩
abbrev sz : Ser := ⟨lz, ⟨1, 2⟩⟩
abbrev sy : Ser := ⟨ly, ⟨1, 10⟩⟩
abbrev sj : Ser := ⟨ly, ⟨1, 11⟩⟩
theorem live_r1 : vReduce ⟨#[109, 101, 97, 110]⟩ false liveP = ((1, 1500), 0) := by kernel_rfl
theorem live_r2 : vReduce ⟨#[109, 101, 97, 110]⟩ true liveP = ((3, 0), 0) := by kernel_rfl
theorem live_r3 : vReduce ⟨#[110, 111, 110, 101]⟩ false [] = ((0, 0), 100) := by kernel_rfl
theorem set_lx : isSet lx = true := by kernel_rfl
theorem set_ly : isSet ly = true := by kernel_rfl
theorem set_lz : isSet lz = true := by kernel_rfl
theorem isV_small (n : Int) (h0 : 0 ≤ n) (h1 : n ≤ 100) : isV ((1 : Int), n) := .inl ⟨rfl, by show (-1000000000000000 : Int) ≤ n; omega, by show n ≤ (1000000000000000 : Int); omega⟩
theorem live_s1 : vSort [sx, sz] = ([sx, sz], 0) := vSort_strict (fun x hx => by
  rcases List.mem_cons.1 hx with rfl | hx
  · exact set_lx
  · rw [List.mem_singleton.1 hx]; exact set_lz) (fun x hx => by
  rcases List.mem_cons.1 hx with rfl | hx
  · exact isV_small 1 (by omega) (by omega)
  · rw [List.mem_singleton.1 hx]; exact isV_small 2 (by omega) (by omega)) (by
  refine List.pairwise_cons.2 ⟨fun y hy => ?_, List.pairwise_singleton _ _⟩
  rw [List.mem_singleton.1 hy]
  have e : cmpSer sx sz = -1 := by kernel_rfl
  omega) (by decide)
theorem live_s2 : vSort [sy] = ([sy], 0) := vSort_strict (fun x hx => by rw [List.mem_singleton.1 hx]; exact set_ly) (fun x hx => by rw [List.mem_singleton.1 hx]; exact isV_small 10 (by omega) (by omega)) (List.pairwise_singleton _ _) (by decide)
theorem live_s3 : vSort [sj] = ([sj], 0) := vSort_strict (fun x hx => by rw [List.mem_singleton.1 hx]; exact set_ly) (fun x hx => by rw [List.mem_singleton.1 hx]; exact isV_small 11 (by omega) (by omega)) (List.pairwise_singleton _ _) (by decide)
theorem live_j : vJoin ⟨#[43]⟩ [sx, sz] [sy] = ([sj], 0) := by
  have e1 : (vDo ⟨#[43]⟩ [(1, 0), (1, 0)]).2 = 0 := by kernel_rfl
  have f1 : fits sx sy = true := by kernel_rfl
  have f2 : fits sz sy = false := by kernel_rfl
  have hd : vDo ⟨#[43]⟩ [((1 : Int), (1 : Int)), (1, 10)] = ((1, 11), 0) := by kernel_rfl
  have hp : pairsJ ⟨#[43]⟩ [sx, sz] [sy] = [sj] := by
    have r1 : rowJ ⟨#[43]⟩ sx [sy] = [sj] := by
      unfold rowJ
      rw [List.filter_cons_of_pos f1, List.filter_nil, List.map_cons, List.map_nil]
      have h0 := joinS_labels (op := ⟨#[43]⟩) (x := sx) (y := sy) set_lx set_ly f1
      rw [if_pos (by decide)] at h0
      have h1 : (joinS ⟨#[43]⟩ sx sy).f1 = ⟨1, 11⟩ := by unfold joinS; simp only [hd]
      have e : joinS ⟨#[43]⟩ sx sy = ⟨(joinS ⟨#[43]⟩ sx sy).f0, (joinS ⟨#[43]⟩ sx sy).f1⟩ := rfl
      rw [e, h0, h1]
    have r2 : rowJ ⟨#[43]⟩ sz [sy] = [] := by
      unfold rowJ
      rw [List.filter_cons_of_neg (by rw [f2]; simp), List.filter_nil, List.map_nil]
    unfold pairsJ
    rw [List.flatMap_cons, List.flatMap_cons, List.flatMap_nil, r1, r2]; rfl
  unfold vJoin
  rw [live_s1, live_s2]
  simp only [e1, if_true]
  rw [hp]; exact live_s3
theorem sok1 : SersOk [sx, sz] := ⟨by decide, fun x hx => by
  rcases List.mem_cons.1 hx with rfl | hx
  · exact ⟨by decide, (set_ok set_lx).1⟩
  · rw [List.mem_singleton.1 hx]; exact ⟨by decide, (set_ok set_lz).1⟩⟩
theorem sok2 : SersOk [sy] := ⟨by decide, fun x hx => by rw [List.mem_singleton.1 hx]; exact ⟨by decide, (set_ok set_ly).1⟩⟩
theorem sok3 : SersOk [sj] := ⟨by decide, fun x hx => by rw [List.mem_singleton.1 hx]; exact ⟨by decide, (set_ok set_ly).1⟩⟩
theorem red1 (A : Option Addr) (c : Nat) (hc : 3 ≤ c) (w : World) (hr : Kd.C k39 w A 3 liveP) : Calls Tryz.prog 10 #[.string ⟨#[109, 101, 97, 110]⟩, .bool false, .slice A 3 c] w fun e w' => e = .returned (.tuple #[.agg #[.int .i64 1, .int .i64 1500], .int .i64 0]) ∧ Below w.heap.size w w' := by
  have h := reduce_calls ⟨#[109, 101, 97, 110]⟩ false A c liveP (by decide) w hr hc
  rw [live_r1] at h
  exact h
theorem red2 (A : Option Addr) (c : Nat) (hc : 3 ≤ c) (w : World) (hr : Kd.C k39 w A 3 liveP) : Calls Tryz.prog 10 #[.string ⟨#[109, 101, 97, 110]⟩, .bool true, .slice A 3 c] w fun e w' => e = .returned (.tuple #[.agg #[.int .i64 3, .int .i64 0], .int .i64 0]) ∧ Below w.heap.size w w' := by
  have h := reduce_calls ⟨#[109, 101, 97, 110]⟩ true A c liveP (by decide) w hr hc
  rw [live_r2] at h
  exact h
theorem red3 (w : World) : Calls Tryz.prog 10 #[.string ⟨#[110, 111, 110, 101]⟩, .bool false, .slice none 0 0] w fun e w' => e = .returned (.tuple #[.agg #[.int .i64 0, .int .i64 0], .int .i64 100]) ∧ Below w.heap.size w w' := by
  have h := reduce_calls ⟨#[110, 111, 110, 101]⟩ false none 0 [] (by decide) w ⟨rfl, by decide, fun h => absurd h (by decide)⟩ (by decide)
  rw [live_r3] at h
  exact h
theorem joinl (A B : Option Addr) (w : World) (hA : Kd.C k37 w A 2 [sx, sz]) (hB : Kd.C k37 w B 1 [sy]) : Calls Tryz.prog 19 #[.string ⟨#[43]⟩, .slice A 2 2, .slice B 1 1] w fun e w' => ∃ v : Value, e = .returned (.tuple #[v, .int .i64 0]) ∧ Kd.N k37 37 w' w.heap.size (fun _ => True) v [sj] ∧ Below w.heap.size w w' := by
  have h := sjoin_calls ⟨#[43]⟩ A B 2 1 [sx, sz] [sy] sok1 sok2 w hA hB
  rw [live_j] at h
  exact h
/-- What stands while the answers are held against each other. -/
def LiveS (w : World) (N1 N2 Y : Nat) (Aj : Option Addr) (cj : Nat) (w' : World) : Prop := Below w.heap.size w w' ∧ w'.cell? ⟨N1, 0, none⟩ = some (.int .i64 1) ∧ w'.cell? ⟨N1, 1, none⟩ = some (.int .i64 1500) ∧ w'.cell? ⟨N2, 0, none⟩ = some (.int .i64 3) ∧ w'.cell? ⟨N2, 1, none⟩ = some (.int .i64 0) ∧ Sd (Kd.C k62 w' (some ⟨Y, 0, none⟩) 2 ly) ∧ Sd (Kd.C k37 w' Aj 1 [sj] ∧ 1 ≤ cj)
theorem LiveS.below {w w1 w2 : World} {N1 N2 Y : Nat} {Aj : Option Addr} {cj : Nat} (h : LiveS w N1 N2 Y Aj cj w1) (hb : Below w1.heap.size w1 w2) : LiveS w N1 N2 Y Aj cj w2 := by
  obtain ⟨h0, h1, h2, h3, h4, h5, h6⟩ := h
  exact ⟨h0.trans (hb.mono h0.size), pw_cell_below hb h1, pw_cell_below hb h2, pw_cell_below hb h3, pw_cell_below hb h4, ⟨Kd.C_below h5.out hb⟩, ⟨⟨Kd.C_below h6.out.1 hb, h6.out.2⟩⟩⟩
theorem LiveS.drew {w w1 : World} {N1 N2 Y : Nat} {Aj : Option Addr} {cj : Nat} (h : LiveS w N1 N2 Y Aj cj w1) : LiveS w N1 N2 Y Aj cj w1.drew := h.below (Below.refl _ _).drew
theorem LiveS.alloc {w w1 : World} {N1 N2 Y : Nat} {Aj : Option Addr} {cj : Nat} (h : LiveS w N1 N2 Y Aj cj w1) (o : Obj) : LiveS w N1 N2 Y Aj cj (w1.alloc o) := h.below (below1 w1 o)
/-- 'Same', at a list that is laid just now. -/
theorem same_fresh {w W : World} {N1 N2 Y : Nat} {Aj : Option Addr} {cj : Nat} (h : LiveS w N1 N2 Y Aj cj W) : Calls Tryz.prog 16 #[.slice Aj 1 cj, .slice (some ⟨W.heap.size, 0, none⟩) 1 1] (W.alloc (.cells #[.slice (some ⟨Y, 0, none⟩) 2 2, .int .i64 1, .int .i64 11] 37)) fun e w' => e = .returned (.bool true) ∧ Below W.heap.size W w' := by
  have hb := below1 W (.cells #[.slice (some ⟨Y, 0, none⟩) 2 2, .int .i64 1, .int .i64 11] 37)
  have h5 := Kd.C_below h.2.2.2.2.2.1.out hb
  have h6 := Kd.C_below h.2.2.2.2.2.2.out.1 hb
  have hC := row_of k37 (g := W.heap.size) [(sj, [.slice (some ⟨Y, 0, none⟩) 2 2, .int .i64 1, .int .i64 11])] (fun q hq => by
    rw [List.mem_singleton.1 hq]
    exact k37_mk _ sj (Nat.le_refl 2) h5) (by simp) (blk_new W _)
  exact (same_calls Aj _ cj 1 [sj] sok3 _ h6 h.2.2.2.2.2.2.out.2 hC (Nat.le_refl 1)).mono fun e w' ⟨he, hw⟩ => ⟨he, hb.trans (hw.mono hb.size)⟩
theorem num_calls10 (n : Int) (w : World) : Calls Tryz.prog 12 #[.int .i64 n] w fun e w' => e = .returned (.int .i64 n) ∧ Below w.heap.size w w' :=
  (l10_num.calls n n w rfl).mono fun e w' ⟨he, hw⟩ => ⟨he, by obtain ⟨m, rfl⟩ := hw; exact pbd (Below.refl _ _) m⟩
def l10_live.f : Option Bool := some true
abbrev cP : Array Value := #[.int .i64 0, .int .i64 1, .int .i64 1000, .int .i64 0, .int .i64 1, .int .i64 2000, .int .i64 0, .int .i64 2, .int .i64 0]
theorem liveP_C {W : World} {g : Nat} (h : W.heap[g]? = some (.cells cP 39 (0, 0))) : Kd.C k39 W (some ⟨g, 0, none⟩) 3 liveP :=
  row_of k39 [(⟨0, ⟨1, 1000⟩⟩, [.int .i64 0, .int .i64 1, .int .i64 1000]), (⟨0, ⟨1, 2000⟩⟩, [.int .i64 0, .int .i64 1, .int .i64 2000]), (⟨0, ⟨2, 0⟩⟩, [.int .i64 0, .int .i64 2, .int .i64 0])] (fun q hq => by
    simp only [List.mem_cons, List.not_mem_nil, or_false] at hq
    rcases hq with rfl | rfl | rfl <;> exact k39_mk _ _) (by simp) h
theorem lab1_C {W : World} {g : Nat} {a b : ByteArray} (h : W.heap[g]? = some (.cells #[.string a, .string b] 62 (0, 0))) : Kd.C k62 W (some ⟨g, 0, none⟩) 1 [⟨a, b⟩] :=
  row_of k62 [(⟨a, b⟩, [.string a, .string b])] (fun q hq => by rw [List.mem_singleton.1 hq]; exact k62_mk _ _) (by simp) h
theorem lab2_C {W : World} {g : Nat} {a b c d : ByteArray} (h : W.heap[g]? = some (.cells #[.string a, .string b, .string c, .string d] 62 (0, 0))) : Kd.C k62 W (some ⟨g, 0, none⟩) 2 [⟨a, b⟩, ⟨c, d⟩] :=
  row_of k62 [(⟨a, b⟩, [.string a, .string b]), (⟨c, d⟩, [.string c, .string d])] (fun q hq => by
    simp only [List.mem_cons, List.not_mem_nil, or_false] at hq
    rcases hq with rfl | rfl <;> exact k62_mk _ _) (by simp) h
theorem ser1_C {W : World} {g Y : Nat} {x : List Lab} {n k m : Nat} (h : W.heap[g]? = some (.cells #[.slice (some ⟨Y, 0, none⟩) n n, .int .i64 k, .int .i64 m] 37 (0, 0))) (hx : Kd.C k62 W (some ⟨Y, 0, none⟩) n x) (hn : n = x.length) : Kd.C k37 W (some ⟨g, 0, none⟩) 1 [⟨x, ⟨k, m⟩⟩] := by
  subst hn
  exact row_of k37 [((⟨x, ⟨k, m⟩⟩ : Ser), [.slice (some ⟨Y, 0, none⟩) x.length x.length, .int .i64 k, .int .i64 m])] (fun q hq => by rw [List.mem_singleton.1 hq]; exact k37_mk _ (⟨x, ⟨k, m⟩⟩ : Ser) (Nat.le_refl _) hx) (by simp) h
theorem ser2_C {W : World} {g Y Z : Nat} {x z : List Lab} {n n' : Nat} {k m k' m' : Int} (h : W.heap[g]? = some (.cells #[.slice (some ⟨Y, 0, none⟩) n n, .int .i64 k, .int .i64 m, .slice (some ⟨Z, 0, none⟩) n' n', .int .i64 k', .int .i64 m'] 37 (0, 0))) (hx : Kd.C k62 W (some ⟨Y, 0, none⟩) n x) (hn : n = x.length) (hz : Kd.C k62 W (some ⟨Z, 0, none⟩) n' z) (hn' : n' = z.length) : Kd.C k37 W (some ⟨g, 0, none⟩) 2 [⟨x, ⟨k, m⟩⟩, ⟨z, ⟨k', m'⟩⟩] := by
  subst hn; subst hn'
  exact row_of k37 [((⟨x, ⟨k, m⟩⟩ : Ser), [.slice (some ⟨Y, 0, none⟩) x.length x.length, .int .i64 k, .int .i64 m]), ((⟨z, ⟨k', m'⟩⟩ : Ser), [.slice (some ⟨Z, 0, none⟩) z.length z.length, .int .i64 k', .int .i64 m'])] (fun q hq => by
    simp only [List.mem_cons, List.not_mem_nil, or_false] at hq
    rcases hq with rfl | rfl
    · exact k37_mk _ (⟨x, ⟨k, m⟩⟩ : Ser) (Nat.le_refl _) hx
    · exact k37_mk _ (⟨z, ⟨k', m'⟩⟩ : Ser) (Nat.le_refl _) hz) (by simp) h
attribute [local go_sem high] eqA25
theorem l10_live.calls (r : Bool) (w : World) (h : l10_live.f = some r) : Calls Tryz.prog 9 #[] w fun e w' => e = .returned (.bool r) ∧ Below w.heap.size w w' := by
  injection h with h
  subst h
  have mixed : Tryz.prog.follows .mixedOrders = true := by kernel_rfl
  go_enter Tryz.func9, Tryz.ntmps9
  go_wp2_with fail
  refine (rnum_calls 1000 (by omega) (by omega) w).mono ?_
  rintro e w1 ⟨rfl, hb1⟩
  go_wp2_with fail
  refine (rnum_calls 2000 (by omega) (by omega) w1).mono ?_
  rintro e w2 ⟨rfl, hb2⟩
  go_wp2_with fail
  refine (rnull_calls w2).mono ?_
  rintro e w3 ⟨rfl, hb3⟩
  have HK := Sd.mk ((((Bk.start w).below hb1).below hb2).below hb3)
  clear hb1 hb2 hb3
  have HK3 := Sd.mk (HK.out.push cP 39)
  go_wp2_with fail
  refine (red1 _ 3 (Nat.le_refl 3) _ (liveP_C (HK3.out.get List.mem_cons_self))).mono ?_
  rintro e w4 ⟨rfl, hb4⟩
  have HK4 := Sd.mk (HK3.out.below hb4)
  have HK4b := Sd.mk (HK4.out.push #[.int .i64 1, .int .i64 1500] 25)
  obtain ⟨L, hL⟩ : ∃ L, w3.heap.size = L := ⟨_, rfl⟩
  obtain ⟨N1, hN1⟩ : ∃ L, w4.heap.size = L := ⟨_, rfl⟩
  rw [hL] at HK4b
  rw [hN1] at HK4b
  go_wp2_with fail
  clear hb4 HK HK3 HK4 hL
  refine (red2 _ 3 (Nat.le_refl 3) _ (liveP_C (HK4b.out.get (n := L) (by simp)))).mono ?_
  rintro e w5 ⟨rfl, hb5⟩
  have HK5 := Sd.mk (HK4b.out.below hb5)
  have HK5b := Sd.mk ((((HK5.out.push #[.int .i64 3, .int .i64 0] 25).push #[.string ⟨#[97]⟩, .string ⟨#[49]⟩] 62).push #[.string ⟨#[97]⟩, .string ⟨#[49]⟩, .string ⟨#[98]⟩, .string ⟨#[49]⟩] 62).push #[.string ⟨#[97]⟩, .string ⟨#[50]⟩] 62)
  simp only [World.size_alloc] at HK5b
  obtain ⟨N2, hN2⟩ : ∃ L, w5.heap.size = L := ⟨_, rfl⟩
  rw [hN2] at HK5b
  clear hb5 HK5 HK4b hN1
  go_wp2_with fail
  refine (rnum_calls 1 (by omega) (by omega) _).mono ?_
  rintro e w6 ⟨rfl, hb6⟩
  have HK6 := Sd.mk (HK5b.out.below hb6)
  clear hb6 HK5b hN2
  go_wp2_with fail
  refine (rnum_calls 2 (by omega) (by omega) w6).mono ?_
  rintro e w7 ⟨rfl, hb7⟩
  have HK7 := Sd.mk (HK6.out.below hb7)
  have HK7b := Sd.mk (HK7.out.push #[.slice (some ⟨N2 + 1, 0, none⟩) 1 1, .int .i64 1, .int .i64 1, .slice (some ⟨N2 + 1 + 1 + 1, 0, none⟩) 1 1, .int .i64 1, .int .i64 2] 37)
  obtain ⟨P, hP⟩ : ∃ L, w7.heap.size = L := ⟨_, rfl⟩
  rw [hP] at HK7b
  clear hb7 HK6 HK7
  go_wp2_with fail
  refine (rnum_calls 10 (by omega) (by omega) _).mono ?_
  rintro e w8 ⟨rfl, hb8⟩
  have HK8 := Sd.mk (HK7b.out.below hb8)
  have HK8b := Sd.mk (HK8.out.push #[.slice (some ⟨N2 + 1 + 1, 0, none⟩) 2 2, .int .i64 1, .int .i64 10] 37)
  obtain ⟨Q, hQ⟩ : ∃ L, w8.heap.size = L := ⟨_, rfl⟩
  rw [hQ] at HK8b
  clear hb8 HK7b HK8 hP
  go_wp2_with fail
  refine (joinl (some ⟨P, 0, none⟩) (some ⟨Q, 0, none⟩) _ (ser2_C (HK8b.out.get (n := P) (by simp)) (lab1_C (HK8b.out.get (n := N2 + 1) (by simp))) rfl (lab1_C (HK8b.out.get (n := N2 + 1 + 1 + 1) (by simp))) rfl) (ser1_C (HK8b.out.get (n := Q) (by simp)) (lab2_C (HK8b.out.get (n := N2 + 1 + 1) (by simp))) rfl)).mono ?_
  rintro e w9 ⟨v, rfl, hv, hb9⟩
  have HK9 := Sd.mk (HK8b.out.below hb9)
  obtain ⟨Aj, cj, rfl, hcj, hCj⟩ := Kd.N_reads hv
  have HJ := Sd.mk (And.intro hCj hcj)
  clear hb9 HK8b hQ hv hcj hCj
  go_wp2_with fail
  refine (red3 w9).mono ?_
  rintro e w10 ⟨rfl, hb10⟩
  have HK10 := Sd.mk (HK9.out.below hb10)
  have hba := below1 w10 (.cells #[.int .i64 0, .int .i64 0] 25)
  have HK11 := Sd.mk (HK10.out.below hba)
  have S0 : LiveS w N1 N2 (N2 + 1 + 1) Aj cj (w10.alloc (.cells #[.int .i64 0, .int .i64 0] 25)) := ⟨HK11.out.b, HK11.out.cell (n := N1) (cs := #[.int .i64 1, .int .i64 1500]) (t := 25) (i := 0) (by simp) rfl, HK11.out.cell (n := N1) (cs := #[.int .i64 1, .int .i64 1500]) (t := 25) (i := 1) (by simp) rfl, HK11.out.cell (n := N2) (cs := #[.int .i64 3, .int .i64 0]) (t := 25) (i := 0) (by simp) rfl, HK11.out.cell (n := N2) (cs := #[.int .i64 3, .int .i64 0]) (t := 25) (i := 1) (by simp) rfl, ⟨lab2_C (HK11.out.get (n := N2 + 1 + 1) (by simp))⟩, ⟨⟨Kd.C_below (Kd.C_below HJ.out.1 hb10) hba, HJ.out.2⟩⟩⟩
  clear hb10 hba HK9 HK10 HK11 HJ
  go_wp2_with fail
  generalize w10.alloc (.cells #[.int .i64 0, .int .i64 0] 25) = W at S0 ⊢
  have S1 : LiveS w N1 N2 (N2 + 1 + 1) Aj cj W := S0
  clear S0
  go_region_held3 (fun w' => Below w.heap.size w w' ∧ w'.cell? ⟨N1, 0, none⟩ = some (.int .i64 1) ∧ w'.cell? ⟨N1, 1, none⟩ = some (.int .i64 1500) ∧ w'.cell? ⟨N2, 0, none⟩ = some (.int .i64 3) ∧ w'.cell? ⟨N2, 1, none⟩ = some (.int .i64 0) ∧ Sd (Kd.C k62 w' (some ⟨N2 + 1 + 1, 0, none⟩) 2 ly) ∧ Sd (Kd.C k37 w' Aj 1 [sj] ∧ 1 ≤ cj)) (first | exact hS | exact LiveS.drew (by assumption) | exact LiveS.alloc (by assumption) _ | go_keep)
    (first
      | (go_at_call 12; (with_reducible refine (num_calls10 _ _).mono ?_); rintro e w2 ⟨rfl, hb1⟩; have hS : LiveS w N1 N2 (N2 + 1 + 1) Aj cj _ := LiveS.below (by assumption) hb1; clear hb1)
      | (go_at_call 27; (with_reducible refine (rnum_calls 1500 (by omega) (by omega) _).mono ?_); rintro e w2 ⟨rfl, hb1⟩; have hS : LiveS w N1 N2 (N2 + 1 + 1) Aj cj _ := LiveS.below (by assumption) hb1; clear hb1)
      | (go_at_call 27; (with_reducible refine (rnum_calls 11 (by omega) (by omega) _).mono ?_); rintro e w2 ⟨rfl, hb1⟩; have hS : LiveS w N1 N2 (N2 + 1 + 1) Aj cj _ := LiveS.below (by assumption) hb1; clear hb1)
      | (go_at_call 29; (with_reducible refine (rnan_calls _).mono ?_); rintro e w2 ⟨rfl, hb1⟩; have hS : LiveS w N1 N2 (N2 + 1 + 1) Aj cj _ := LiveS.below (by assumption) hb1; clear hb1)
      | (go_at_call 16; (refine (same_fresh (show LiveS w N1 N2 (N2 + 1 + 1) Aj cj _ by assumption)).mono ?_); rintro e w2 ⟨rfl, hb1⟩; have hS : LiveS w N1 N2 (N2 + 1 + 1) Aj cj _ := LiveS.below (by assumption) hb1; clear hb1))
  go_wp2
  go_ret
  exact ⟨by simp, (show LiveS w N1 N2 (N2 + 1 + 1) Aj cj _ by assumption).1⟩
attribute [local go_sem] max2_int min2_int max_two min_two max_three min_three max_four min_four   -- for this text's walks alone
mutual
def l10_SeriesParts.j0 : Nat → List (S39) → List (S39) → Bool → Option (Bool)
 | 0, _, _, _ => none
 | k + 1, x0, x1, x32 => if x32 = true then ((l10_live.f).bind fun t475 => (some t475)) else ((some (([] : List (S39)) : List (S39))).bind fun y476 => (if y476.length + x0.length < 5864062014805 then ((some (y476 ++ x0 : List (S39))).bind fun y479 => (if y479.length + x1.length < 5864062014805 then (l10_SeriesParts.l0 k x0 x1 (y479 ++ x1) 0) else (none))) else (none)))
def l10_SeriesParts.l0 : Nat → List (S39) → List (S39) → List (S39) → Int → Option (Bool)
 | 0, _, _, _, _ => none
 | k + 1, x0, x1, x5, x6 => if x6 < (x5.length : Int) then (if 0 ≤ x6 then (if ((rd_T39 x5 x6).f1.f0) = 1 then (if ((rd_T39 x5 x6).f1.f1) > 1000000000 then ((l10_live.f).bind fun t487 => (some t487)) else (if ((rd_T39 x5 x6).f1.f1) < (-1000000000) then ((l10_live.f).bind fun t488 => (some t488)) else (l10_SeriesParts.l0 k x0 x1 x5 (wrap64 (x6 + 1))))) else ((l10_live.f).bind fun t489 => (some t489))) else (none)) else (if (x0.length : Int) = 0 then (l10_SeriesParts.j2 k x0 x1 x5 true) else (l10_SeriesParts.j2 k x0 x1 x5 ((x1.length : Int) == 0)))
def l10_SeriesParts.j2 : Nat → List (S39) → List (S39) → List (S39) → Bool → Option (Bool)
 | 0, _, _, _, _ => none
 | k + 1, x0, x1, x5, x71 => if x71 = true then ((l10_live.f).bind fun t490 => (some t490)) else (l10_SeriesParts.l1 k x0 x1 x5 (([(⟨#[43]⟩ : ByteArray), (⟨#[43]⟩ : ByteArray)] : List ByteArray)) (([(⟨#[115, 117, 109]⟩ : ByteArray), (⟨#[99, 111, 117, 110, 116]⟩ : ByteArray)] : List ByteArray)) 0)
def l10_SeriesParts.l1 : Nat → List (S39) → List (S39) → List (S39) → List ByteArray → List ByteArray → Int → Option (Bool)
 | 0, _, _, _, _, _, _ => none
 | k + 1, x0, x1, x5, x8, x9, x10 => if x10 < (x9.length : Int) then (if 0 ≤ x10 then ((s_Reduce.f (rdOf ByteArray.empty x9 x10) true x0).bind fun bt498 => ((s_Reduce.f (rdOf ByteArray.empty x9 x10) true x1).bind fun bt503 => ((s_Reduce.f (rdOf ByteArray.empty x9 x10) false x5).bind fun bt508 => (if x10 < (x8.length : Int) then ((q8_Do.f k (rdOf ByteArray.empty x8 x10) (([(⟨bt498.1, bt498.2.1⟩ : S25), (⟨bt503.1, bt503.2.1⟩ : S25)] : List (S25)))).bind fun bt516 => ((l10_num.f bt498.2.2).bind fun t520 => ((l10_num.f bt503.2.2).bind fun t521 => ((l10_num.f bt508.2.2).bind fun t522 => (if (wrap64 ((wrap64 (t520 + t521)) + t522)) = 0 then (if (!(bt516.1 == bt508.1) || (!(bt516.2.1 == bt508.2.1))) = true then (none) else (l10_SeriesParts.l1 k x0 x1 x5 x8 x9 (wrap64 (x10 + 1)))) else (none)))))) else (none))))) else (none)) else ((s_Reduce.f (⟨#[109, 105, 110]⟩ : ByteArray) true x0).bind fun bt523 => ((s_Reduce.f (⟨#[109, 105, 110]⟩ : ByteArray) true x1).bind fun bt527 => ((s_Reduce.f (⟨#[109, 105, 110]⟩ : ByteArray) true x5).bind fun bt531 => (if bt531.2.1 = (mn bt523.2.1 bt527.2.1) then (if bt531.1 = 1 then ((l10_live.f).bind fun t535 => (some t535)) else (none)) else (none)))))
end
def l10_SeriesParts.f (k : Nat) (l0 : List (S39)) (l1 : List (S39)) : Option (Bool) := if (l0.length : Int) > 60 then (l10_SeriesParts.j0 k l0 l1 true) else (l10_SeriesParts.j0 k l0 l1 (decide ((l1.length : Int) > 60)))
def l10_SeriesParts.T20 : Bool × List (List Nat × List Nat) := (true, [([], []), ([], []), ([0, 1], [0, 1]), ([2], [2]), ([], []), ([], []), ([4, 5], [4, 5]), ([3, 6], [3, 6]), ([7], [7]), ([8], [8]), ([8], [8]), ([], []), ([11, 9, 7, 0, 1, 2, 3, 4, 5, 6, 7, 8, 9, 11], [9, 11]), ([10, 12, 0, 1, 2, 3, 4, 5, 6, 7, 8, 9, 10, 11, 12], [10])])
def l10_SeriesParts.B20 : List Nat := [0, 0, 3, 7, 0, 0, 48, 127, 255, 511, 511, 0, 3071, 8191]
theorem l10_SeriesParts.tab20 : rtab .any (opsOf Tryz.f5 20) = l10_SeriesParts.T20 := by kernel_rfl
theorem l10_SeriesParts.bits20 : waitsOk l10_SeriesParts.T20.2 l10_SeriesParts.B20 = true := by kernel_rfl
theorem l10_SeriesParts.calls (k : Nat) (A0 : Option Addr) (c0 : Nat) (l0 : List (S39)) (A1 : Option Addr) (c1 : Nat) (l1 : List (S39)) (r : Bool) (w : World) (hr0 : Kd.C k39 w A0 l0.length l0) (hc0 : l0.length ≤ c0) (hr1 : Kd.C k39 w A1 l1.length l1) (hc1 : l1.length ≤ c1) (h : l10_SeriesParts.f k l0 l1 = some r) :
  Calls Tryz.prog 5 #[.slice A0 l0.length c0, .slice A1 l1.length c1] w fun e w' => e = .returned (.bool r) ∧ Below w.heap.size w w' := by
 have hu25 := Tryz.underlying25
 have HR0 := Sd.mk hr0
 have HC0 := Sd.mk hc0
 clear hr0 hc0
 have HR1 := Sd.mk hr1
 have HC1 := Sd.mk hc1
 clear hr1 hc1
 have HB := Sd.mk (Below.refl w.heap.size w)
 have H : (if (l0.length : Int) > 60 then (l10_SeriesParts.j0 k l0 l1 true) else (l10_SeriesParts.j0 k l0 l1 (decide ((l1.length : Int) > 60)))) = some r := h
 clear h
 have HC3 := Sd.mk H
 clear H
 go_enter Tryz.func5, Tryz.ntmps5
 go_upto_region 1 with (fail)
 go_cut [32] (fun v32 wc => ∃ (kq : Nat) (x32_2 : Bool), v32 = .bool x32_2 ∧ Sd (l10_SeriesParts.j0 kq l0 l1 x32_2 = some r) ∧ Sd (kq ≤ k) ∧ Sd (Below w.heap.size w wc))
 case first =>
  have H := HC3.out
  clear HC3
  by_cases c4 : (l0.length : Int) > 60
  ·rw [if_pos c4] at H
   have c4b0 : decide (60 < (l0.length : Int)) = true := decide_eq_true c4
   have c4b1 : decide (60 < l0.length) = true := decide_eq_true (by omega)
   clear c4
   (first | rw [c4b0] | (simp only [i64_w, i32_w]; rw [c4b0]) | skip)
   have H' := Sd.mk H
   clear H
   go_wp2
   go_meet
   case rel => exact ⟨_, (true), ae, H', ⟨by first | omega | exact Nat.le_refl _⟩, ⟨bbl⟩⟩
  ·rw [if_neg c4] at H
   have c4b0 : decide (60 < (l0.length : Int)) = false := decide_eq_false c4
   have c4b1 : decide (60 < l0.length) = false := decide_eq_false (by omega)
   clear c4
   (first | rw [c4b0] | (simp only [i64_w, i32_w]; rw [c4b0]) | skip)
   have H' := Sd.mk H
   clear H
   go_wp2
   go_meet
   case rel => exact ⟨_, (decide ((l1.length : Int) > 60)), ae, H', ⟨by first | omega | exact Nat.le_refl _⟩, ⟨bbl⟩⟩
 case rest =>
  clear HC3
  obtain ⟨kq, x32_2, rfl, HA, HJ2, HB⟩ := hcut
  cases kq with
  | zero => exact absurd HA.out (by simp [l10_SeriesParts.j0])
  | succ kj2 =>
   have H := HA.out
   clear HA
   simp only [l10_SeriesParts.j0] at H
   by_cases c5 : x32_2 = true
   ·subst c5
    replace H := iT H
    obtain ⟨t475, A6, H⟩ := bnd H
    obtain rfl := Option.some.inj H
    go_wp2_with (first | ((with_reducible refine gate_callee (f := 9) rfl ?_); refine goesL_ (some 33) rfl rfl Tryz.func9 (by kernel_rfl) rfl #[] rfl ma ?_; (with_reducible refine (l10_live.calls  t475 _ A6.out).mono ?_); rintro e w7 ⟨rfl, hb⟩; refine ⟨_, rfl, ?_⟩; replace HB := bsq w hb; (try clear hb)))
    go_ret
    exact ⟨fe, bbl⟩
   ·replace c5 := Bool.eq_false_iff.mpr c5
    subst c5
    replace H := iF H
    obtain ⟨y476, hy476⟩ : ∃ y_ : List (S39), y_ = (([] : List (S39))) := ⟨_, rfl⟩
    replace H : (if y476.length + l0.length < 5864062014805 then ((some (y476 ++ l0 : List (S39))).bind fun y479 => (if y479.length + l1.length < 5864062014805 then (l10_SeriesParts.l0 kj2 l0 l1 (y479 ++ l1) 0) else (none))) else (none)) = some r := by first | (rw [hy476]; with_reducible exact H) | (have H2_ := (Option.bind_some _ _).symm.trans H; rw [hy476]; with_reducible exact H2_) | (have H2_ := (Option.bind_some _ _).symm.trans H; with_reducible exact H2_) | with_reducible exact H | (rw [hy476]; exact H) | exact H
    have Ny476 := Sd.mk hy476
    clear hy476
    by_cases c8 : y476.length + l0.length < 5864062014805
    ·rw [if_pos c8] at H
     have LMc8 := Sd.mk c8
     clear c8
     obtain ⟨y479, hy479⟩ : ∃ y_ : List (S39), y_ = (y476 ++ l0) := ⟨_, rfl⟩
     replace H : (if y479.length + l1.length < 5864062014805 then (l10_SeriesParts.l0 kj2 l0 l1 (y479 ++ l1) 0) else (none)) = some r := by first | (rw [hy479]; with_reducible exact H) | (have H2_ := (Option.bind_some _ _).symm.trans H; rw [hy479]; with_reducible exact H2_) | (have H2_ := (Option.bind_some _ _).symm.trans H; with_reducible exact H2_) | with_reducible exact H | (rw [hy479]; exact H) | exact H
     have Ny479 := Sd.mk hy479
     clear hy479
     by_cases c9 : y479.length + l1.length < 5864062014805
     ·rw [if_pos c9] at H
      have LMc9 := Sd.mk c9
      clear c9
      obtain ⟨y482, hy482⟩ : ∃ y_ : List (S39), y_ = (y479 ++ l1) := ⟨_, rfl⟩
      replace H : (l10_SeriesParts.l0 kj2 l0 l1 y482 0) = some r := by first | (rw [hy482]; with_reducible exact H) | (have H2_ := (Option.bind_some _ _).symm.trans H; rw [hy482]; with_reducible exact H2_) | (have H2_ := (Option.bind_some _ _).symm.trans H; with_reducible exact H2_) | with_reducible exact H | (rw [hy482]; exact H) | exact H
      have Ny482 := Sd.mk hy482
      clear hy482
      have H' := Sd.mk H
      clear H
      go_wp2_with (first | ((with_reducible refine gate_dst (N := 34) rfl ?_); (try (refine gate_guard (by rfl) ?_; dsimp only)); refine Kd.R_lit k39 _ 39 ?hg (N := 34) ?hd (xs := ([] : List (S39))) (inner := []) (ok := fun _ => True) (okp := fun _ => True) ?hr ?hp (fun _ hk => hk) trivial (Below.refl _ _) (Nat.le_refl _) (by simp) ?_; (case hd => rfl); (case hg => rfl); (case hr => first | (go_simp; done) | (go_simp; rfl)); (case hp => exact (Reps.none _ _)); intro v477 w10 ho11 hb hg_ hnew_; clear hg_ hnew_; (first | rw [← Ny476.out] at ho11 | (simp only [Int.reduceToNat] at ho11; rw [← Ny476.out] at ho11)); have n0_ := Sd.mk (Kd.R_lower ho11 (below_size bbl)); have n1_ := bsq w hb; clear HB; have HO478 := n0_; have HB := n1_; clear n0_ n1_; clear hb ho11) | ((with_reducible refine gate_builtin (b := .append) (xs := #[.tmp 34, .tmp 35]) rfl ?_); (try (refine gate_guard (by rfl) ?_; dsimp only)); at_builtin; refine Kd.R_append_rows k39 (w0 := w) w.heap.size rfl (.tmp 34) (.tmp 35) 22 39 (.agg #[(.int .i64 0), (.int .i64 0), (.int .i64 0)]) 24 rfl Tryz.underlying22 info39 rfl (by decide) (by omega) v477 y476 l0 _ _ _ (fun _ => True) (fun _ => False) rfl rfl ?aO ?aR (fun _ _ h => h) (fun _ h => h.elim) ?aF ?aB ?aS ?aL ?_; (case aR => repeat (first | exact (Kd.C_below HR0.out HB.out) | (with_reducible refine Kd.C_alloc ?_ _) | (with_reducible refine Kd.C_drewN ?_ _) | (with_reducible refine Kd.C_drew ?_))); (case aB => exact bbl); (case aF => exact (fun _ _ => trivial)); (case aO => exact (by (repeat refine dR ?_); exact HO478.out)); (case aS => exact (below_size bbl)); (case aL => have := LMc8.out; omega); intro v480 w12 ho hb hg hat; rw [← Ny479.out] at ho; have n0_ := Sd.mk (hb); have n1_ := Sd.mk (ho); clear HB; clear HO478; have HB := n0_; have HO481 := n1_; clear n0_ n1_; clear ho hb hg hat) | ((with_reducible refine gate_builtin (b := .append) (xs := #[.tmp 36, .tmp 37]) rfl ?_); (try (refine gate_guard (by rfl) ?_; dsimp only)); at_builtin; refine Kd.R_append_rows k39 (w0 := w) w.heap.size rfl (.tmp 36) (.tmp 37) 22 39 (.agg #[(.int .i64 0), (.int .i64 0), (.int .i64 0)]) 24 rfl Tryz.underlying22 info39 rfl (by decide) (by omega) v480 y479 l1 _ _ _ (fun _ => True) (fun _ => False) rfl rfl ?aO ?aR (fun _ _ h => h) (fun _ h => h.elim) ?aF ?aB ?aS ?aL ?_; (case aR => repeat (first | exact (Kd.C_below HR1.out HB.out) | (with_reducible refine Kd.C_alloc ?_ _) | (with_reducible refine Kd.C_drewN ?_ _) | (with_reducible refine Kd.C_drew ?_))); (case aB => exact bbl); (case aF => exact (fun _ _ => trivial)); (case aO => exact (by (repeat refine dR ?_); exact HO481.out)); (case aS => exact (below_size bbl)); (case aL => have := LMc9.out; omega); intro v483 w13 ho hb hg hat; rw [← Ny482.out] at ho; have n0_ := Sd.mk (hb); have n1_ := Sd.mk (ho); clear HB; clear HO481; have HB := n0_; have HO484 := n1_; clear n0_ n1_; clear ho hb hg hat))
      go_loopg [6] kj2 (fun kq v6 w' => ∃ (x6_2 : Int), v6 = .int .i64 x6_2 ∧ Sd (l10_SeriesParts.l0 kq l0 l1 y482 x6_2 = some r) ∧ Sd (kq ≤ kj2) ∧ Sd (Kd.R k39 39 w' w.heap.size (fun _ => True) v483 y482) ∧ Sd (Below w.heap.size w w'))
      case atStart => exact ⟨(0), ae, H', ⟨Nat.le_refl _⟩, fwR HO484, ⟨bbl⟩⟩
      case round =>
       clear H'
       obtain ⟨x6_2, rfl, HA, HK2, HO_5, HB⟩ := hrel
       cases gk with
       | zero => exact absurd HA.out (by simp [l10_SeriesParts.l0])
       | succ k2 =>
        have H := HA.out
        clear HA
        simp only [l10_SeriesParts.l0] at H
        by_cases c14 : x6_2 < (y482.length : Int)
        ·rw [if_pos c14] at H
         have c14b0 : decide (x6_2 < (y482.length : Int)) = true := decide_eq_true c14
         clear c14
         by_cases c15 : 0 ≤ x6_2
         ·rw [if_pos c15] at H
          have c15b0 : decide (0 ≤ x6_2) = true := decide_eq_true c15
          clear c15
          by_cases c16 : ((rd_T39 y482 x6_2).f1.f0) = 1
          ·rw [if_pos c16] at H
           have c16b0 : (((rd_T39 y482 x6_2).f1.f0) == 1) = true := beq_iff_eq.mpr c16
           have c16b1 : (((rd_T39 y482 x6_2).f1.f0) != 1) = false := bne_eq_false_iff_eq.mpr c16
           clear c16
           by_cases c17 : ((rd_T39 y482 x6_2).f1.f1) > 1000000000
           ·rw [if_pos c17] at H
            have c17b0 : decide (1000000000 < ((rd_T39 y482 x6_2).f1.f1)) = true := decide_eq_true c17
            clear c17
            obtain ⟨t487, A18, H⟩ := bnd H
            obtain rfl := Option.some.inj H
            obtain ⟨Ao19, co19, eo19⟩ := Kd.R_slice HO_5.out
            subst eo19
            have p485 : 0 ≤ (x6_2 : Int) := ode
            have q485 : x6_2 < (y482.length : Int) := ode
            obtain ⟨ad485, e485, hx485_0, hx485_1, hx485_2⟩ := at_T39 (Kd.R_reads' HO_5.out).2.2 x6_2 p485 q485
            cases e485
            replace p485 := eq_true p485
            replace q485 := eq_true q485
            go_wp2_with (first | ((with_reducible refine gate_dst (N := 7) rfl ?_); (try (refine gate_guard (by rfl) ?_; dsimp only)); refine bxe (N := 7) (cs := #[.int .i64 0, .int .i64 0]) (t := 25) ?_; intro gb486 hg w20 hbox hb; have BK486 := Sd.mk hbox; have GW486 := bge w hg; have GE486 := bge w hg; replace HO_5 := brb HO_5 hb; replace HB := bsq w hb; clear hb hbox hg; have hcz21_0 := bz0 BK486; have hcz21_1 := bz1 BK486; have hfz21_0 := blk_frozen BK486.out 0; have hfz21_1 := blk_frozen BK486.out 1) | ((with_reducible refine gate_callee (f := 9) rfl ?_); refine goesL_ (some 63) rfl rfl Tryz.func9 (by kernel_rfl) rfl #[] rfl ma ?_; (with_reducible refine (l10_live.calls  t487 _ A18.out).mono ?_); rintro e w22 ⟨rfl, hb⟩; refine ⟨_, rfl, ?_⟩; have n0_ := Sd.mk (Kd.R_below (by (repeat refine dR ?_); exact (Kd.R_mono (Kd.R_far (p := ⟨gb486, 1, none⟩) (Kd.R_far (p := ⟨gb486, 0, none⟩) (Kd.R_types HO_5.out BK486.out (by decide)) (fun _ hk => hk.2) (.int .i64 ((rd_T39 y482 x6_2).f1.f0))) (fun _ hk => hk.2) (.int .i64 ((rd_T39 y482 x6_2).f1.f1))) (fun _ h_ => h_.1))) hb); have n1_ := Sd.mk (blk_below (g := gb486) (o := .cells #[.int .i64 ((rd_T39 y482 x6_2).f1.f0), .int .i64 ((rd_T39 y482 x6_2).f1.f1)] 25 (0, 0)) (by (repeat refine dw ?_); refine blk_put (cs := #[.int .i64 ((rd_T39 y482 x6_2).f1.f0), .int .i64 0]) ?_ 1 _ rfl; (repeat refine dw ?_); refine blk_put (cs := #[.int .i64 0, .int .i64 0]) ?_ 0 _ rfl; (repeat refine dw ?_); exact BK486.out) hb); have n2_ := bsq w hb; clear HO_5; clear BK486; clear HB; have HO_5 := n0_; have BK486 := n1_; have HB := n2_; clear n0_ n1_ n2_; (try clear hb)))
            go_ret
            exact ⟨fe, bbl⟩
           ·rw [if_neg c17] at H
            have c17b0 : decide (1000000000 < ((rd_T39 y482 x6_2).f1.f1)) = false := decide_eq_false c17
            clear c17
            by_cases c23 : ((rd_T39 y482 x6_2).f1.f1) < (-1000000000)
            ·rw [if_pos c23] at H
             have c23b0 : decide (((rd_T39 y482 x6_2).f1.f1) < (-1000000000)) = true := decide_eq_true c23
             clear c23
             obtain ⟨t488, A24, H⟩ := bnd H
             obtain rfl := Option.some.inj H
             obtain ⟨Ao25, co25, eo25⟩ := Kd.R_slice HO_5.out
             subst eo25
             have p485 : 0 ≤ (x6_2 : Int) := ode
             have q485 : x6_2 < (y482.length : Int) := ode
             obtain ⟨ad485, e485, hx485_0, hx485_1, hx485_2⟩ := at_T39 (Kd.R_reads' HO_5.out).2.2 x6_2 p485 q485
             cases e485
             replace p485 := eq_true p485
             replace q485 := eq_true q485
             go_wp2_with (first | ((with_reducible refine gate_dst (N := 7) rfl ?_); (try (refine gate_guard (by rfl) ?_; dsimp only)); refine bxe (N := 7) (cs := #[.int .i64 0, .int .i64 0]) (t := 25) ?_; intro gb486 hg w26 hbox hb; have BK486 := Sd.mk hbox; have GW486 := bge w hg; have GE486 := bge w hg; replace HO_5 := brb HO_5 hb; replace HB := bsq w hb; clear hb hbox hg; have hcz27_0 := bz0 BK486; have hcz27_1 := bz1 BK486; have hfz27_0 := blk_frozen BK486.out 0; have hfz27_1 := blk_frozen BK486.out 1) | ((with_reducible refine gate_callee (f := 9) rfl ?_); refine goesL_ (some 63) rfl rfl Tryz.func9 (by kernel_rfl) rfl #[] rfl ma ?_; (with_reducible refine (l10_live.calls  t488 _ A24.out).mono ?_); rintro e w28 ⟨rfl, hb⟩; refine ⟨_, rfl, ?_⟩; have n0_ := Sd.mk (Kd.R_below (by (repeat refine dR ?_); exact (Kd.R_mono (Kd.R_far (p := ⟨gb486, 1, none⟩) (Kd.R_far (p := ⟨gb486, 0, none⟩) (Kd.R_types HO_5.out BK486.out (by decide)) (fun _ hk => hk.2) (.int .i64 ((rd_T39 y482 x6_2).f1.f0))) (fun _ hk => hk.2) (.int .i64 ((rd_T39 y482 x6_2).f1.f1))) (fun _ h_ => h_.1))) hb); have n1_ := Sd.mk (blk_below (g := gb486) (o := .cells #[.int .i64 ((rd_T39 y482 x6_2).f1.f0), .int .i64 ((rd_T39 y482 x6_2).f1.f1)] 25 (0, 0)) (by (repeat refine dw ?_); refine blk_put (cs := #[.int .i64 ((rd_T39 y482 x6_2).f1.f0), .int .i64 0]) ?_ 1 _ rfl; (repeat refine dw ?_); refine blk_put (cs := #[.int .i64 0, .int .i64 0]) ?_ 0 _ rfl; (repeat refine dw ?_); exact BK486.out) hb); have n2_ := bsq w hb; clear HO_5; clear BK486; clear HB; have HO_5 := n0_; have BK486 := n1_; have HB := n2_; clear n0_ n1_ n2_; (try clear hb)))
             go_ret
             exact ⟨fe, bbl⟩
            ·rw [if_neg c23] at H
             have c23b0 : decide (((rd_T39 y482 x6_2).f1.f1) < (-1000000000)) = false := decide_eq_false c23
             clear c23
             have H' := Sd.mk H
             clear H
             obtain ⟨Ao29, co29, eo29⟩ := Kd.R_slice HO_5.out
             subst eo29
             have p485 : 0 ≤ (x6_2 : Int) := ode
             have q485 : x6_2 < (y482.length : Int) := ode
             obtain ⟨ad485, e485, hx485_0, hx485_1, hx485_2⟩ := at_T39 (Kd.R_reads' HO_5.out).2.2 x6_2 p485 q485
             cases e485
             replace p485 := eq_true p485
             replace q485 := eq_true q485
             go_wp2_with (first | ((with_reducible refine gate_dst (N := 7) rfl ?_); (try (refine gate_guard (by rfl) ?_; dsimp only)); refine bxe (N := 7) (cs := #[.int .i64 0, .int .i64 0]) (t := 25) ?_; intro gb486 hg w30 hbox hb; have BK486 := Sd.mk hbox; have GW486 := bge w hg; have GE486 := bge w hg; replace HO_5 := brb HO_5 hb; replace HB := bsq w hb; clear hb hbox hg; have hcz31_0 := bz0 BK486; have hcz31_1 := bz1 BK486; have hfz31_0 := blk_frozen BK486.out 0; have hfz31_1 := blk_frozen BK486.out 1))
             go_roundg k2
             case measure => have := HJ2.out; have := HK2.out; omega
             case rel => exact ⟨(wrap64 (x6_2 + 1)), ae, H', ⟨by have := HJ2.out; have := HK2.out; omega⟩, ⟨by (repeat refine dR ?_); exact Kd.R_mono (Kd.R_far (p := ⟨gb486, 1, none⟩) (Kd.R_far (p := ⟨gb486, 0, none⟩) (Kd.R_types HO_5.out BK486.out (by decide)) (fun _ hk => hk.2) (.int .i64 ((rd_T39 y482 x6_2).f1.f0))) (fun _ hk => hk.2) (.int .i64 ((rd_T39 y482 x6_2).f1.f1))) (fun _ hk => trivial)⟩, ⟨bbl⟩⟩
          ·rw [if_neg c16] at H
           have c16b0 : (((rd_T39 y482 x6_2).f1.f0) == 1) = false := beq_eq_false_iff_ne.mpr c16
           have c16b1 : (((rd_T39 y482 x6_2).f1.f0) != 1) = true := bne_iff_ne.mpr c16
           obtain ⟨t489, A32, H⟩ := bnd H
           obtain rfl := Option.some.inj H
           obtain ⟨Ao33, co33, eo33⟩ := Kd.R_slice HO_5.out
           subst eo33
           have p485 : 0 ≤ (x6_2 : Int) := ode
           have q485 : x6_2 < (y482.length : Int) := ode
           obtain ⟨ad485, e485, hx485_0, hx485_1, hx485_2⟩ := at_T39 (Kd.R_reads' HO_5.out).2.2 x6_2 p485 q485
           cases e485
           replace p485 := eq_true p485
           replace q485 := eq_true q485
           go_wp2_with (first | ((with_reducible refine gate_dst (N := 7) rfl ?_); (try (refine gate_guard (by rfl) ?_; dsimp only)); refine bxe (N := 7) (cs := #[.int .i64 0, .int .i64 0]) (t := 25) ?_; intro gb486 hg w34 hbox hb; have BK486 := Sd.mk hbox; have GW486 := bge w hg; have GE486 := bge w hg; replace HO_5 := brb HO_5 hb; replace HB := bsq w hb; clear hb hbox hg; have hcz35_0 := bz0 BK486; have hcz35_1 := bz1 BK486; have hfz35_0 := blk_frozen BK486.out 0; have hfz35_1 := blk_frozen BK486.out 1) | ((with_reducible refine gate_callee (f := 9) rfl ?_); refine goesL_ (some 63) rfl rfl Tryz.func9 (by kernel_rfl) rfl #[] rfl ma ?_; (with_reducible refine (l10_live.calls  t489 _ A32.out).mono ?_); rintro e w36 ⟨rfl, hb⟩; refine ⟨_, rfl, ?_⟩; have n0_ := Sd.mk (Kd.R_below (by (repeat refine dR ?_); exact (Kd.R_mono (Kd.R_far (p := ⟨gb486, 1, none⟩) (Kd.R_far (p := ⟨gb486, 0, none⟩) (Kd.R_types HO_5.out BK486.out (by decide)) (fun _ hk => hk.2) (.int .i64 ((rd_T39 y482 x6_2).f1.f0))) (fun _ hk => hk.2) (.int .i64 ((rd_T39 y482 x6_2).f1.f1))) (fun _ h_ => h_.1))) hb); have n1_ := Sd.mk (blk_below (g := gb486) (o := .cells #[.int .i64 ((rd_T39 y482 x6_2).f1.f0), .int .i64 ((rd_T39 y482 x6_2).f1.f1)] 25 (0, 0)) (by (repeat refine dw ?_); refine blk_put (cs := #[.int .i64 ((rd_T39 y482 x6_2).f1.f0), .int .i64 0]) ?_ 1 _ rfl; (repeat refine dw ?_); refine blk_put (cs := #[.int .i64 0, .int .i64 0]) ?_ 0 _ rfl; (repeat refine dw ?_); exact BK486.out) hb); have n2_ := bsq w hb; clear HO_5; clear BK486; clear HB; have HO_5 := n0_; have BK486 := n1_; have HB := n2_; clear n0_ n1_ n2_; (try clear hb)))
           go_ret
           exact ⟨fe, bbl⟩
         ·rw [if_neg c15] at H
          exact absurd H (by simp)
        ·rw [if_neg c14] at H
         have c14b0 : decide (x6_2 < (y482.length : Int)) = false := decide_eq_false c14
         clear c14
         have HC37 := Sd.mk H
         clear H
         obtain ⟨Ao38, co38, eo38⟩ := Kd.R_slice HO_5.out
         subst eo38
         go_upto_region 10 with (fail)
         go_cut [71] (fun v71 wc => ∃ (kq : Nat) (x71_36 : Bool), v71 = .bool x71_36 ∧ Sd (l10_SeriesParts.j2 kq l0 l1 y482 x71_36 = some r) ∧ Sd (kq ≤ k2) ∧ Sd (Kd.R k39 39 wc w.heap.size (fun _ => True) (.slice Ao38 y482.length co38) y482) ∧ Sd (Below w.heap.size w wc))
         case first =>
          have H := HC37.out
          clear HC37
          by_cases c39 : (l0.length : Int) = 0
          ·rw [if_pos c39] at H
           have c39b0 : ((l0.length : Int) == 0) = true := beq_iff_eq.mpr c39
           have c39b1 : ((l0.length : Int) != 0) = false := bne_eq_false_iff_eq.mpr c39
           clear c39
           (first | rw [c39b0] | (simp only [i64_w, i32_w]; rw [c39b0]) | skip)
           have H' := Sd.mk H
           clear H
           go_wp2
           go_meet
           case rel => exact ⟨_, (true), ae, H', ⟨by have := HJ2.out; have := HK2.out; first | omega | exact Nat.le_refl _⟩, fwR HO_5, ⟨bbl⟩⟩
          ·rw [if_neg c39] at H
           have c39b0 : ((l0.length : Int) == 0) = false := beq_eq_false_iff_ne.mpr c39
           have c39b1 : ((l0.length : Int) != 0) = true := bne_iff_ne.mpr c39
           have c39b2 : ¬ (l0 = []) := fun h_ => c39 (by rw [h_]; rfl)
           (first | rw [c39b0] | (simp only [i64_w, i32_w]; rw [c39b0]) | skip)
           have H' := Sd.mk H
           clear H
           go_wp2
           go_meet
           case rel => exact ⟨_, (((l1.length : Int) == 0)), ae, H', ⟨by have := HJ2.out; have := HK2.out; first | omega | exact Nat.le_refl _⟩, fwR HO_5, ⟨bbl⟩⟩
         case rest =>
          clear HC37
          obtain ⟨kq, x71_36, rfl, HA, HJ36, HO_5, HB⟩ := hcut
          cases kq with
          | zero => exact absurd HA.out (by simp [l10_SeriesParts.j2])
          | succ kj36 =>
           have H := HA.out
           clear HA
           simp only [l10_SeriesParts.j2] at H
           by_cases c40 : x71_36 = true
           ·subst c40
            replace H := iT H
            obtain ⟨t490, A41, H⟩ := bnd H
            obtain rfl := Option.some.inj H
            go_wp2_with (first | ((with_reducible refine gate_callee (f := 9) rfl ?_); refine goesL_ (some 72) rfl rfl Tryz.func9 (by kernel_rfl) rfl #[] rfl ma ?_; (with_reducible refine (l10_live.calls  t490 _ A41.out).mono ?_); rintro e w42 ⟨rfl, hb⟩; refine ⟨_, rfl, ?_⟩; replace HO_5 := brb HO_5 hb; replace HB := bsq w hb; (try clear hb)))
            go_ret
            exact ⟨fe, bbl⟩
           ·replace c40 := Bool.eq_false_iff.mpr c40
            subst c40
            replace H := iF H
            obtain ⟨y491, hy491⟩ : ∃ y_ : List ByteArray, y_ = (([(⟨#[43]⟩ : ByteArray), (⟨#[43]⟩ : ByteArray)] : List ByteArray)) := ⟨_, rfl⟩
            replace H : (l10_SeriesParts.l1 kj36 l0 l1 y482 y491 (([(⟨#[115, 117, 109]⟩ : ByteArray), (⟨#[99, 111, 117, 110, 116]⟩ : ByteArray)] : List ByteArray)) 0) = some r := by first | (rw [hy491]; with_reducible exact H) | (have H2_ := (Option.bind_some _ _).symm.trans H; rw [hy491]; with_reducible exact H2_) | (have H2_ := (Option.bind_some _ _).symm.trans H; with_reducible exact H2_) | with_reducible exact H | (rw [hy491]; exact H) | exact H
            have Ny491 := Sd.mk hy491
            clear hy491
            obtain ⟨y494, hy494⟩ : ∃ y_ : List ByteArray, y_ = (([(⟨#[115, 117, 109]⟩ : ByteArray), (⟨#[99, 111, 117, 110, 116]⟩ : ByteArray)] : List ByteArray)) := ⟨_, rfl⟩
            replace H : (l10_SeriesParts.l1 kj36 l0 l1 y482 y491 y494 0) = some r := by first | (rw [hy494]; with_reducible exact H) | (have H2_ := (Option.bind_some _ _).symm.trans H; rw [hy494]; with_reducible exact H2_) | (have H2_ := (Option.bind_some _ _).symm.trans H; with_reducible exact H2_) | with_reducible exact H | (rw [hy494]; exact H) | exact H
            have Ny494 := Sd.mk hy494
            clear hy494
            have H' := Sd.mk H
            clear H
            go_wp2_with (first | ((with_reducible refine gate_dst (N := 73) rfl ?_); (try (refine gate_guard (by rfl) ?_; dsimp only)); refine Kd.R_lit Kd.string _ 9 ?hg (N := 73) ?hd (xs := ([(⟨#[43]⟩ : ByteArray), (⟨#[43]⟩ : ByteArray)] : List ByteArray)) (inner := [.string (⟨#[43]⟩ : ByteArray), .string (⟨#[43]⟩ : ByteArray)]) (ok := fun _ => True) (okp := fun _ => True) ?hr ?hp (fun _ hk => hk) trivial (Below.refl _ _) (Nat.le_refl _) (by simp) ?_; (case hd => rfl); (case hg => rfl); (case hr => first | (go_simp; done) | (go_simp; rfl)); (case hp => exact (Reps.one (show Kd.M Kd.string _ _ _ (⟨#[43]⟩ : ByteArray) [.string (⟨#[43]⟩ : ByteArray)] from rfl) (Reps.one (show Kd.M Kd.string _ _ _ (⟨#[43]⟩ : ByteArray) [.string (⟨#[43]⟩ : ByteArray)] from rfl) (Reps.none _ _)))); intro v492 w43 ho44 hb hg_ hnew_; clear hg_ hnew_; (first | rw [← Ny491.out] at ho44 | (simp only [Int.reduceToNat] at ho44; rw [← Ny491.out] at ho44)); have n0_ := brb HO_5 hb; have n1_ := Sd.mk (Kd.R_lower ho44 (below_size bbl)); have n2_ := bsq w hb; clear HO_5; clear HB; have HO_5 := n0_; have HO493 := n1_; have HB := n2_; clear n0_ n1_ n2_; clear hb ho44) | ((with_reducible refine gate_dst (N := 74) rfl ?_); (try (refine gate_guard (by rfl) ?_; dsimp only)); refine Kd.R_lit Kd.string _ 9 ?hg (N := 74) ?hd (xs := ([(⟨#[115, 117, 109]⟩ : ByteArray), (⟨#[99, 111, 117, 110, 116]⟩ : ByteArray)] : List ByteArray)) (inner := [.string (⟨#[115, 117, 109]⟩ : ByteArray), .string (⟨#[99, 111, 117, 110, 116]⟩ : ByteArray)]) (ok := fun _ => True) (okp := fun _ => True) ?hr ?hp (fun _ hk => hk) trivial (Below.refl _ _) (Nat.le_refl _) (by simp) ?_; (case hd => rfl); (case hg => rfl); (case hr => first | (go_simp; done) | (go_simp; rfl)); (case hp => exact (Reps.one (show Kd.M Kd.string _ _ _ (⟨#[115, 117, 109]⟩ : ByteArray) [.string (⟨#[115, 117, 109]⟩ : ByteArray)] from rfl) (Reps.one (show Kd.M Kd.string _ _ _ (⟨#[99, 111, 117, 110, 116]⟩ : ByteArray) [.string (⟨#[99, 111, 117, 110, 116]⟩ : ByteArray)] from rfl) (Reps.none _ _)))); intro v495 w45 ho46 hb hg_ hnew_; clear hg_ hnew_; (first | rw [← Ny494.out] at ho46 | (simp only [Int.reduceToNat] at ho46; rw [← Ny494.out] at ho46)); have n0_ := brb HO_5 hb; have n1_ := Sd.mk (Kd.R_elder' (by (repeat refine dR ?_); exact HO493.out) (Kd.R_base ho46) hb); have n2_ := Sd.mk (Kd.R_lower (Kd.R_new' ho46 (Kd.R_lt (by (repeat refine dR ?_); exact HO493.out))) (below_size bbl)); have n3_ := bsq w hb; clear HO_5; clear HO493; clear HB; have HO_5 := n0_; have HO493 := n1_; have HO496 := n2_; have HB := n3_; clear n0_ n1_ n2_ n3_; clear hb ho46))
            go_loopg [10] kj36 (fun kq v10 w' => ∃ (x10_4 : Int), v10 = .int .i64 x10_4 ∧ Sd (l10_SeriesParts.l1 kq l0 l1 y482 y491 y494 x10_4 = some r) ∧ Sd (kq ≤ kj36) ∧ Sd (Kd.R k39 39 w' w.heap.size (fun _ => True) (.slice Ao38 y482.length co38) y482) ∧ Sd (Kd.R Kd.string 9 w' w.heap.size (fun k_ => some k_ ≠ (v495 : Value).ownBlock) v492 y491) ∧ Sd (Kd.R Kd.string 9 w' w.heap.size (fun k_ => some k_ ≠ (v492 : Value).ownBlock) v495 y494) ∧ Sd (Below w.heap.size w w'))
            case atStart => exact ⟨(0), ae, H', ⟨Nat.le_refl _⟩, fwR HO_5, ⟨by (repeat refine dR ?_); exact Kd.R_mono HO493.out (fun _ hk => hk.2)⟩, ⟨by (repeat refine dR ?_); exact Kd.R_mono HO496.out (fun _ hk => hk.2)⟩, ⟨bbl⟩⟩
            case round =>
             clear H'
             obtain ⟨x10_4, rfl, HA, HK4, HO_5, HO_8, HO_9, HB⟩ := hrel
             cases gk with
             | zero => exact absurd HA.out (by simp [l10_SeriesParts.l1])
             | succ k4 =>
              have H := HA.out
              clear HA
              simp only [l10_SeriesParts.l1] at H
              by_cases c47 : x10_4 < (y494.length : Int)
              ·rw [if_pos c47] at H
               have c47b0 : decide (x10_4 < (y494.length : Int)) = true := decide_eq_true c47
               clear c47
               by_cases c48 : 0 ≤ x10_4
               ·rw [if_pos c48] at H
                have c48b0 : decide (0 ≤ x10_4) = true := decide_eq_true c48
                clear c48
                obtain ⟨⟨t498, t499, t500⟩, A49, H⟩ := bnd H
                replace H : ((s_Reduce.f (rdOf ByteArray.empty y494 x10_4) true l1).bind fun bt503 => ((s_Reduce.f (rdOf ByteArray.empty y494 x10_4) false y482).bind fun bt508 => (if x10_4 < (y491.length : Int) then ((q8_Do.f k4 (rdOf ByteArray.empty y491 x10_4) (([(⟨t498, t499⟩ : S25), (⟨bt503.1, bt503.2.1⟩ : S25)] : List (S25)))).bind fun bt516 => ((l10_num.f t500).bind fun t520 => ((l10_num.f bt503.2.2).bind fun t521 => ((l10_num.f bt508.2.2).bind fun t522 => (if (wrap64 ((wrap64 (t520 + t521)) + t522)) = 0 then (if (!(bt516.1 == bt508.1) || (!(bt516.2.1 == bt508.2.1))) = true then (none) else (l10_SeriesParts.l1 k4 l0 l1 y482 y491 y494 (wrap64 (x10_4 + 1)))) else (none)))))) else (none)))) = some r := H
                obtain ⟨⟨t503, t504, t505⟩, A50, H⟩ := bnd H
                replace H : ((s_Reduce.f (rdOf ByteArray.empty y494 x10_4) false y482).bind fun bt508 => (if x10_4 < (y491.length : Int) then ((q8_Do.f k4 (rdOf ByteArray.empty y491 x10_4) (([(⟨t498, t499⟩ : S25), (⟨t503, t504⟩ : S25)] : List (S25)))).bind fun bt516 => ((l10_num.f t500).bind fun t520 => ((l10_num.f t505).bind fun t521 => ((l10_num.f bt508.2.2).bind fun t522 => (if (wrap64 ((wrap64 (t520 + t521)) + t522)) = 0 then (if (!(bt516.1 == bt508.1) || (!(bt516.2.1 == bt508.2.1))) = true then (none) else (l10_SeriesParts.l1 k4 l0 l1 y482 y491 y494 (wrap64 (x10_4 + 1)))) else (none)))))) else (none))) = some r := H
                obtain ⟨⟨t508, t509, t510⟩, A51, H⟩ := bnd H
                replace H : (if x10_4 < (y491.length : Int) then ((q8_Do.f k4 (rdOf ByteArray.empty y491 x10_4) (([(⟨t498, t499⟩ : S25), (⟨t503, t504⟩ : S25)] : List (S25)))).bind fun bt516 => ((l10_num.f t500).bind fun t520 => ((l10_num.f t505).bind fun t521 => ((l10_num.f t510).bind fun t522 => (if (wrap64 ((wrap64 (t520 + t521)) + t522)) = 0 then (if (!(bt516.1 == t508) || (!(bt516.2.1 == t509))) = true then (none) else (l10_SeriesParts.l1 k4 l0 l1 y482 y491 y494 (wrap64 (x10_4 + 1)))) else (none)))))) else (none)) = some r := H
                by_cases c52 : x10_4 < (y491.length : Int)
                ·rw [if_pos c52] at H
                 have c52b0 : decide (x10_4 < (y491.length : Int)) = true := decide_eq_true c52
                 clear c52
                 obtain ⟨y513, hy513⟩ : ∃ y_ : List (S25), y_ = (([(⟨t498, t499⟩ : S25), (⟨t503, t504⟩ : S25)] : List (S25))) := ⟨_, rfl⟩
                 replace H : ((q8_Do.f k4 (rdOf ByteArray.empty y491 x10_4) y513).bind fun bt516 => ((l10_num.f t500).bind fun t520 => ((l10_num.f t505).bind fun t521 => ((l10_num.f t510).bind fun t522 => (if (wrap64 ((wrap64 (t520 + t521)) + t522)) = 0 then (if (!(bt516.1 == t508) || (!(bt516.2.1 == t509))) = true then (none) else (l10_SeriesParts.l1 k4 l0 l1 y482 y491 y494 (wrap64 (x10_4 + 1)))) else (none)))))) = some r := by first | (rw [hy513]; with_reducible exact H) | (have H2_ := (Option.bind_some _ _).symm.trans H; rw [hy513]; with_reducible exact H2_) | (have H2_ := (Option.bind_some _ _).symm.trans H; with_reducible exact H2_) | with_reducible exact H | (rw [hy513]; exact H) | exact H
                 have Ny513 := Sd.mk hy513
                 clear hy513
                 obtain ⟨⟨t516, t517, t518⟩, A53, H⟩ := bnd H
                 replace H : ((l10_num.f t500).bind fun t520 => ((l10_num.f t505).bind fun t521 => ((l10_num.f t510).bind fun t522 => (if (wrap64 ((wrap64 (t520 + t521)) + t522)) = 0 then (if (!(t516 == t508) || (!(t517 == t509))) = true then (none) else (l10_SeriesParts.l1 k4 l0 l1 y482 y491 y494 (wrap64 (x10_4 + 1)))) else (none))))) = some r := H
                 obtain ⟨t520, A54, H⟩ := bnd H
                 obtain ⟨t521, A55, H⟩ := bnd H
                 obtain ⟨t522, A56, H⟩ := bnd H
                 by_cases c57 : (wrap64 ((wrap64 (t520 + t521)) + t522)) = 0
                 ·rw [if_pos c57] at H
                  have c57b0 : ((wrap64 ((wrap64 (t520 + t521)) + t522)) == 0) = true := beq_iff_eq.mpr c57
                  have c57b1 : ((wrap64 ((wrap64 (t520 + t521)) + t522)) != 0) = false := bne_eq_false_iff_eq.mpr c57
                  clear c57
                  by_cases c58 : (!(t516 == t508) || (!(t517 == t509))) = true
                  ·rw [if_pos c58] at H; cases H
                  ·rw [if_neg c58] at H
                   have c58b0 : (!(t516 == t508) || (!(t517 == t509))) = false := by simpa using c58
                   clear c58
                   have H' := Sd.mk H
                   clear H
                   obtain ⟨Ao88, co88, eo88⟩ := Kd.R_slice HO_9.out
                   subst eo88
                   have p497 : 0 ≤ (x10_4 : Int) := ode
                   have q497 : x10_4 < (y494.length : Int) := ode
                   obtain ⟨ad497, e497, hx497_0⟩ := Kd.at_string (Kd.R_reads' HO_9.out).2.2 x10_4 p497 q497
                   cases e497
                   replace p497 := eq_true p497
                   replace q497 := eq_true q497
                   try go_wp2_with (first | ((with_reducible refine gate_callee (f := 10) rfl ?_); refine goesL_ (some 87) rfl rfl Tryz.func10 (by kernel_rfl) rfl #[.string (rdOf ByteArray.empty y494 x10_4), .bool true, .slice A0 l0.length c0] rfl ma ?_; (with_reducible refine (s_Reduce.calls (rdOf ByteArray.empty y494 x10_4) true _ _ l0 t498 t499 t500 _ ?side1 ?side2 A49.out).mono ?_); (case side1 => repeat (first | exact (Kd.C_below HR0.out HB.out) | (with_reducible refine Kd.C_alloc ?_ _) | (with_reducible refine Kd.C_drewN ?_ _) | (with_reducible refine Kd.C_drew ?_))); (case side2 => exact HC0.out); rintro e w89 ⟨rfl, hb⟩; refine ⟨_, rfl, ?_⟩; replace HO_5 := brb HO_5 hb; replace HO_8 := brb HO_8 hb; replace HO_9 := brb HO_9 hb; replace HB := bsq w hb; (try clear hb)) | ((with_reducible refine gate_dst (N := 11) rfl ?_); (try (refine gate_guard (by rfl) ?_; dsimp only)); refine bxe (N := 11) (cs := #[.int .i64 0, .int .i64 0]) (t := 25) ?_; intro gb501 hg w90 hbox hb; have BK501 := Sd.mk hbox; have GW501 := bge w hg; have GE501 := bge w hg; replace HO_5 := brb HO_5 hb; replace HO_8 := brb HO_8 hb; replace HO_9 := brb HO_9 hb; replace HB := bsq w hb; clear hb hbox hg; have hcz91_0 := bz0 BK501; have hcz91_1 := bz1 BK501; have hfz91_0 := blk_frozen BK501.out 0; have hfz91_1 := blk_frozen BK501.out 1; have p502 : 0 ≤ (x10_4 : Int) := ode; have q502 : x10_4 < (y494.length : Int) := ode; obtain ⟨ad502, e502, hx502_0⟩ := Kd.at_string (Kd.R_reads' HO_9.out).2.2 x10_4 p502 q502; obtain rfl : ad497 = ad502 := (by injection e502); have hn502_0 : ad497.block ≠ gb501 := Kd.own_blk (Kd.R_ne HO_9.out BK501.out (by decide)); have hn502_1 : ad497.block ≠ gb501 := Kd.own_blk (Kd.R_ne HO_9.out BK501.out (by decide)); replace hx502_0 := (cell_far (p := ⟨gb501, 0, none⟩) (by first | (rw [add_block]; exact hn502_0) | (show (Addr.add _ _).block ≠ _; rw [add_block]; exact hn502_0) | exact hn502_0) (.int .i64 t498)).trans hx502_0; replace hx502_0 := (cell_far (p := ⟨gb501, 1, none⟩) (by first | (rw [add_block]; exact hn502_1) | (show (Addr.add _ _).block ≠ _; rw [add_block]; exact hn502_1) | exact hn502_1) (.int .i64 t499)).trans hx502_0; clear hn502_0; clear hn502_1; replace p502 := eq_true p502; replace q502 := eq_true q502) | ((with_reducible refine gate_callee (f := 10) rfl ?_); refine goesL_ (some 96) rfl rfl Tryz.func10 (by kernel_rfl) rfl #[.string (rdOf ByteArray.empty y494 x10_4), .bool true, .slice A1 l1.length c1] rfl ma ?_; (with_reducible refine (s_Reduce.calls (rdOf ByteArray.empty y494 x10_4) true _ _ l1 t503 t504 t505 _ ?side1 ?side2 A50.out).mono ?_); (case side1 => exact Kd.C_below HR1.out bbl); (case side2 => exact HC1.out); rintro e w92 ⟨rfl, hb⟩; refine ⟨_, rfl, ?_⟩; have n0_ := Sd.mk (Kd.R_below (by (repeat refine dR ?_); exact (Kd.R_mono (Kd.R_far (p := ⟨gb501, 1, none⟩) (Kd.R_far (p := ⟨gb501, 0, none⟩) (Kd.R_types HO_5.out BK501.out (by decide)) (fun _ hk => hk.2) (.int .i64 t498)) (fun _ hk => hk.2) (.int .i64 t499)) (fun _ h_ => h_.1))) hb); have n1_ := Sd.mk (Kd.R_below (by (repeat refine dR ?_); exact (Kd.R_mono (Kd.R_far (p := ⟨gb501, 1, none⟩) (Kd.R_far (p := ⟨gb501, 0, none⟩) (Kd.R_types HO_8.out BK501.out (by decide)) (fun _ hk => hk.2) (.int .i64 t498)) (fun _ hk => hk.2) (.int .i64 t499)) (fun _ h_ => h_.1))) hb); have n2_ := Sd.mk (Kd.R_below (by (repeat refine dR ?_); exact (Kd.R_mono (Kd.R_far (p := ⟨gb501, 1, none⟩) (Kd.R_far (p := ⟨gb501, 0, none⟩) (Kd.R_types HO_9.out BK501.out (by decide)) (fun _ hk => hk.2) (.int .i64 t498)) (fun _ hk => hk.2) (.int .i64 t499)) (fun _ h_ => h_.1))) hb); have n3_ := Sd.mk (blk_below (g := gb501) (o := .cells #[.int .i64 t498, .int .i64 t499] 25 (0, 0)) (by (repeat refine dw ?_); refine blk_put (cs := #[.int .i64 t498, .int .i64 0]) ?_ 1 _ rfl; (repeat refine dw ?_); refine blk_put (cs := #[.int .i64 0, .int .i64 0]) ?_ 0 _ rfl; (repeat refine dw ?_); exact BK501.out) hb); have n4_ := bsq w hb; clear HO_5; clear HO_8; clear HO_9; clear BK501; clear HB; have HO_5 := n0_; have HO_8 := n1_; have HO_9 := n2_; have BK501 := n3_; have HB := n4_; clear n0_ n1_ n2_ n3_ n4_; (try clear hb)) | ((with_reducible refine gate_dst (N := 13) rfl ?_); (try (refine gate_guard (by rfl) ?_; dsimp only)); refine bxe (N := 13) (cs := #[.int .i64 0, .int .i64 0]) (t := 25) ?_; intro gb506 hg w93 hbox hb; have BK506 := Sd.mk hbox; have GW506 := bge w hg; have GE506 := bge w hg; have NB501_506 := bnl BK501 hg; have NB506_501 := bng BK501 hg; replace HO_5 := brb HO_5 hb; replace HO_8 := brb HO_8 hb; replace HO_9 := brb HO_9 hb; replace BK501 := bkb BK501 hb; replace HB := bsq w hb; clear hb hbox hg; have hnb94 := NB506_501.out; have hnc94 := NB501_506.out; have hcz95_0 := bz0 BK506; have hcz95_1 := bz1 BK506; have hfz95_0 := blk_frozen BK506.out 0; have hfz95_1 := blk_frozen BK506.out 1; have p507 : 0 ≤ (x10_4 : Int) := ode; have q507 : x10_4 < (y494.length : Int) := ode; obtain ⟨ad507, e507, hx507_0⟩ := Kd.at_string (Kd.R_reads' HO_9.out).2.2 x10_4 p507 q507; obtain rfl : ad497 = ad507 := (by injection e507); have hn507_0 : ad497.block ≠ gb506 := Kd.own_blk (Kd.R_ne HO_9.out BK506.out (by decide)); have hn507_1 : ad497.block ≠ gb506 := Kd.own_blk (Kd.R_ne HO_9.out BK506.out (by decide)); replace hx507_0 := (cell_far (p := ⟨gb506, 0, none⟩) (by first | (rw [add_block]; exact hn507_0) | (show (Addr.add _ _).block ≠ _; rw [add_block]; exact hn507_0) | exact hn507_0) (.int .i64 t503)).trans hx507_0; replace hx507_0 := (cell_far (p := ⟨gb506, 1, none⟩) (by first | (rw [add_block]; exact hn507_1) | (show (Addr.add _ _).block ≠ _; rw [add_block]; exact hn507_1) | exact hn507_1) (.int .i64 t504)).trans hx507_0; clear hn507_0; clear hn507_1; replace p507 := eq_true p507; replace q507 := eq_true q507) | ((with_reducible refine gate_callee (f := 10) rfl ?_); refine goesL_ (some 105) rfl rfl Tryz.func10 (by kernel_rfl) rfl #[.string (rdOf ByteArray.empty y494 x10_4), .bool false, .slice Ao38 y482.length co38] rfl ma ?_; (with_reducible refine (s_Reduce.calls (rdOf ByteArray.empty y494 x10_4) false _ _ y482 t508 t509 t510 _ ?side1 ?side2 A51.out).mono ?_); (case side1 => refine (Kd.R_reads' (e := 39) (base := w.heap.size) (ok := fun k_ => True) (n := y482.length) (c := co38) ?_).2.2; exact (by (repeat refine dR ?_); exact (Kd.R_mono (Kd.R_far (p := ⟨gb506, 1, none⟩) (Kd.R_far (p := ⟨gb506, 0, none⟩) (Kd.R_types HO_5.out BK506.out (by decide)) (fun _ hk => hk.2) (.int .i64 t503)) (fun _ hk => hk.2) (.int .i64 t504)) (fun _ h_ => h_.1)))); (case side2 => exact (Kd.R_reads' HO_5.out).2.1); rintro e w96 ⟨rfl, hb⟩; refine ⟨_, rfl, ?_⟩; have n0_ := Sd.mk (Kd.R_below (by (repeat refine dR ?_); exact (Kd.R_mono (Kd.R_far (p := ⟨gb506, 1, none⟩) (Kd.R_far (p := ⟨gb506, 0, none⟩) (Kd.R_types HO_5.out BK506.out (by decide)) (fun _ hk => hk.2) (.int .i64 t503)) (fun _ hk => hk.2) (.int .i64 t504)) (fun _ h_ => h_.1))) hb); have n1_ := Sd.mk (Kd.R_below (by (repeat refine dR ?_); exact (Kd.R_mono (Kd.R_far (p := ⟨gb506, 1, none⟩) (Kd.R_far (p := ⟨gb506, 0, none⟩) (Kd.R_types HO_8.out BK506.out (by decide)) (fun _ hk => hk.2) (.int .i64 t503)) (fun _ hk => hk.2) (.int .i64 t504)) (fun _ h_ => h_.1))) hb); have n2_ := Sd.mk (Kd.R_below (by (repeat refine dR ?_); exact (Kd.R_mono (Kd.R_far (p := ⟨gb506, 1, none⟩) (Kd.R_far (p := ⟨gb506, 0, none⟩) (Kd.R_types HO_9.out BK506.out (by decide)) (fun _ hk => hk.2) (.int .i64 t503)) (fun _ hk => hk.2) (.int .i64 t504)) (fun _ h_ => h_.1))) hb); have n3_ := Sd.mk (blk_below (g := gb501) (o := .cells #[.int .i64 t498, .int .i64 t499] 25 (0, 0)) (by (repeat refine dw ?_); refine blk_far ?_ NB501_506.out _; (repeat refine dw ?_); refine blk_far ?_ NB501_506.out _; (repeat refine dw ?_); exact BK501.out) hb); have n4_ := Sd.mk (blk_below (g := gb506) (o := .cells #[.int .i64 t503, .int .i64 t504] 25 (0, 0)) (by (repeat refine dw ?_); refine blk_put (cs := #[.int .i64 t503, .int .i64 0]) ?_ 1 _ rfl; (repeat refine dw ?_); refine blk_put (cs := #[.int .i64 0, .int .i64 0]) ?_ 0 _ rfl; (repeat refine dw ?_); exact BK506.out) hb); have n5_ := bsq w hb; clear HO_5; clear HO_8; clear HO_9; clear BK501; clear BK506; clear HB; have HO_5 := n0_; have HO_8 := n1_; have HO_9 := n2_; have BK501 := n3_; have BK506 := n4_; have HB := n5_; clear n0_ n1_ n2_ n3_ n4_ n5_; (try clear hb)) | ((with_reducible refine gate_dst (N := 15) rfl ?_); (try (refine gate_guard (by rfl) ?_; dsimp only)); refine bxe (N := 15) (cs := #[.int .i64 0, .int .i64 0]) (t := 25) ?_; intro gb511 hg w97 hbox hb; have BK511 := Sd.mk hbox; have GW511 := bge w hg; have GE511 := bge w hg; have NB501_511 := bnl BK501 hg; have NB511_501 := bng BK501 hg; have NB506_511 := bnl BK506 hg; have NB511_506 := bng BK506 hg; replace HO_5 := brb HO_5 hb; replace HO_8 := brb HO_8 hb; replace HO_9 := brb HO_9 hb; replace BK501 := bkb BK501 hb; replace BK506 := bkb BK506 hb; replace HB := bsq w hb; clear hb hbox hg; have hnb98 := NB511_501.out; have hnc98 := NB501_511.out; have hnb99 := NB511_506.out; have hnc99 := NB506_511.out; have hcz100_0 := bz0 BK511; have hcz100_1 := bz1 BK511; have hfz100_0 := blk_frozen BK511.out 0; have hfz100_1 := blk_frozen BK511.out 1))
                   have n0_ : Sd (Kd.R k39 39 ((w97.setCell ⟨gb511, 0, none⟩ (.int .i64 t508)).setCell ⟨gb511, 1, none⟩ (.int .i64 t509)) w.heap.size (fun _ => True) (.slice Ao38 y482.length co38) y482) := ⟨by (repeat refine dR ?_); exact Kd.R_mono (Kd.R_far (p := ⟨gb511, 1, none⟩) (Kd.R_far (p := ⟨gb511, 0, none⟩) (Kd.R_types HO_5.out BK511.out (by decide)) (fun _ hk => hk.2) (.int .i64 t508)) (fun _ hk => hk.2) (.int .i64 t509)) (fun _ hk => trivial)⟩
                   have n1_ : Sd (Kd.R Kd.string 9 ((w97.setCell ⟨gb511, 0, none⟩ (.int .i64 t508)).setCell ⟨gb511, 1, none⟩ (.int .i64 t509)) w.heap.size (fun k_ => some k_ ≠ (.slice (some ad497) y494.length co88 : Value).ownBlock) v492 y491) := ⟨by (repeat refine dR ?_); exact Kd.R_mono (Kd.R_far (p := ⟨gb511, 1, none⟩) (Kd.R_far (p := ⟨gb511, 0, none⟩) (Kd.R_types HO_8.out BK511.out (by decide)) (fun _ hk => hk.2) (.int .i64 t508)) (fun _ hk => hk.2) (.int .i64 t509)) (fun _ hk => hk.1)⟩
                   have n2_ : Sd (Kd.R Kd.string 9 ((w97.setCell ⟨gb511, 0, none⟩ (.int .i64 t508)).setCell ⟨gb511, 1, none⟩ (.int .i64 t509)) w.heap.size (fun k_ => some k_ ≠ (v492 : Value).ownBlock) (.slice (some ad497) y494.length co88) y494) := ⟨by (repeat refine dR ?_); exact Kd.R_mono (Kd.R_far (p := ⟨gb511, 1, none⟩) (Kd.R_far (p := ⟨gb511, 0, none⟩) (Kd.R_types HO_9.out BK511.out (by decide)) (fun _ hk => hk.2) (.int .i64 t508)) (fun _ hk => hk.2) (.int .i64 t509)) (fun _ hk => hk.1)⟩
                   have n3_ : Sd (((w97.setCell ⟨gb511, 0, none⟩ (.int .i64 t508)).setCell ⟨gb511, 1, none⟩ (.int .i64 t509)).heap[gb501]? = some (.cells #[.int .i64 t498, .int .i64 t499] 25 (0, 0))) := ⟨by (repeat refine dw ?_); refine blk_far ?_ NB501_511.out _; (repeat refine dw ?_); refine blk_far ?_ NB501_511.out _; (repeat refine dw ?_); exact BK501.out⟩
                   have n4_ : Sd (((w97.setCell ⟨gb511, 0, none⟩ (.int .i64 t508)).setCell ⟨gb511, 1, none⟩ (.int .i64 t509)).heap[gb506]? = some (.cells #[.int .i64 t503, .int .i64 t504] 25 (0, 0))) := ⟨by (repeat refine dw ?_); refine blk_far ?_ NB506_511.out _; (repeat refine dw ?_); refine blk_far ?_ NB506_511.out _; (repeat refine dw ?_); exact BK506.out⟩
                   have n5_ : Sd (((w97.setCell ⟨gb511, 0, none⟩ (.int .i64 t508)).setCell ⟨gb511, 1, none⟩ (.int .i64 t509)).heap[gb511]? = some (.cells #[.int .i64 t508, .int .i64 t509] 25 (0, 0))) := ⟨by (repeat refine dw ?_); refine blk_put (cs := #[.int .i64 t508, .int .i64 0]) ?_ 1 _ rfl; (repeat refine dw ?_); refine blk_put (cs := #[.int .i64 0, .int .i64 0]) ?_ 0 _ rfl; (repeat refine dw ?_); exact BK511.out⟩
                   have n6_ : Sd (Below w.heap.size w ((w97.setCell ⟨gb511, 0, none⟩ (.int .i64 t508)).setCell ⟨gb511, 1, none⟩ (.int .i64 t509))) := ⟨bbl⟩
                   (try clear HO_5)
                   (try clear HO_8)
                   (try clear HO_9)
                   (try clear BK501)
                   (try clear BK506)
                   (try clear BK511)
                   (try clear HB)
                   generalize ((w97.setCell ⟨gb511, 0, none⟩ (.int .i64 t508)).setCell ⟨gb511, 1, none⟩ (.int .i64 t509)) = w101 at n0_ n1_ n2_ n3_ n4_ n5_ n6_ ⊢
                   have HO_5 := n0_
                   have HO_8 := n1_
                   have HO_9 := n2_
                   have BK501 := n3_
                   have BK506 := n4_
                   have BK511 := n5_
                   have HB := n6_
                   clear n0_ n1_ n2_ n3_ n4_ n5_ n6_
                   have n0_ := Sd.mk (Kd.R_drew HO_5.out)
                   have n1_ := Sd.mk (Kd.R_drew HO_8.out)
                   have n2_ := Sd.mk (Kd.R_drew HO_9.out)
                   have n3_ := Sd.mk (blk_drew BK501.out)
                   have n4_ := Sd.mk (blk_drew BK506.out)
                   have n5_ := Sd.mk (blk_drew BK511.out)
                   have n6_ := Sd.mk (bd1 HB.out)
                   clear HO_5 HO_8 HO_9 BK501 BK506 BK511 HB
                   have HO_5 := n0_
                   have HO_8 := n1_
                   have HO_9 := n2_
                   have BK501 := n3_
                   have BK506 := n4_
                   have BK511 := n5_
                   have HB := n6_
                   clear n0_ n1_ n2_ n3_ n4_ n5_ n6_
                   obtain ⟨Ao103, co103, eo103⟩ := Kd.R_slice HO_8.out
                   (first | subst eo103 | (injection eo103 with f1_ f2_ f3_; have f4_ := f1_.symm; have f5_ := f3_.symm; clear f1_ f2_ f3_; subst f4_; subst f5_))
                   have p512 : 0 ≤ (x10_4 : Int) := ode
                   have q512 : x10_4 < (y491.length : Int) := ode
                   obtain ⟨ad512, e512, hx512_0⟩ := Kd.at_string (Kd.R_reads' HO_8.out).2.2 x10_4 p512 q512
                   cases e512
                   replace p512 := eq_true p512
                   replace q512 := eq_true q512
                   refine start_ (n := 14) (S := fun w' => w'.cell? ⟨gb501, 0, none⟩ = some (.int .i64 t498) ∧ w'.cell? ⟨gb501, 1, none⟩ = some (.int .i64 t499) ∧ w'.cell? ⟨gb506, 0, none⟩ = some (.int .i64 t503) ∧ w'.cell? ⟨gb506, 1, none⟩ = some (.int .i64 t504) ∧ w'.cell? (ad512.add (x10_4).toNat) = some (.string (rdOf ByteArray.empty y491 x10_4))) (ds := []) #[false, false, false, false, false, false, false, false, false, false, false, false, false, false] (by kernel_rfl) rfl rfl ⟨(blk_cell BK501.out 0).trans rfl, (blk_cell BK501.out 1).trans rfl, (blk_cell BK506.out 0).trans rfl, (blk_cell BK506.out 1).trans rfl, hx512_0⟩ (fun hHeld => ?_); refine with_tabW l10_SeriesParts.tab20 l10_SeriesParts.bits20 (fun HT_ HW_ => ?_)
                   generalize w101.drew = w102 at HO_5 HO_8 HO_9 BK501 BK506 BK511 HB hx512_0 hHeld ⊢
                   refine pure_ (i := 0) (N := some 109) (v := ?_) (a' := ?_) #[true, false, false, false, false, false, false, false, false, false, false, false, false, false] rfl rfl (any_of HT_.out (by kernel_rfl)) (fun _ _ _ h => h) (Or.inl ⟨by rfl, ?_⟩) ?_ ?_
                   rotate_left
                   ·intro w'
                    go_simp
                    with_reducible rfl
                   rotate_left
                   ·simp only [Act.put, List.setIfInBounds_toArray, List.set_cons_zero, List.set_cons_succ, i64_w, i32_w]
                    rfl
                   refine pure_ (i := 1) (N := some 110) (v := ?_) (a' := ?_) #[true, true, false, false, false, false, false, false, false, false, false, false, false, false] rfl rfl (any_of HT_.out (by kernel_rfl)) (fun _ _ _ h => h) (Or.inl ⟨by rfl, ?_⟩) ?_ ?_
                   rotate_left
                   ·intro w'
                    go_simp
                    with_reducible rfl
                   rotate_left
                   ·simp only [Act.put, List.setIfInBounds_toArray, List.set_cons_zero, List.set_cons_succ, i64_w, i32_w]
                    rfl
                   refine pure_ (i := 2) (N := some 111) (v := ?_) (a' := ?_) #[true, true, true, false, false, false, false, false, false, false, false, false, false, false] rfl rfl (any_of HT_.out (by kernel_rfl)) (fun _ _ _ h => h) (Or.inl ⟨by rfl, ?_⟩) ?_ ?_
                   rotate_left
                   ·intro w'
                    go_simp
                    with_reducible rfl
                   rotate_left
                   ·simp only [Act.put, List.setIfInBounds_toArray, List.set_cons_zero, List.set_cons_succ, i64_w, i32_w]
                    rfl
                   refine take_ (i := 3) (N := some 112) (v := ?_) (a' := ?_) #[true, true, true, true, false, false, false, false, false, false, false, false, false, false] rfl rfl (take_ofW HT_.out HW_.out (by kernel_rfl)) (fun _ _ _ h => h) (Or.inl ⟨by rfl, ?_⟩) hHeld ?_ ?_
                   rotate_left
                   ·rintro w' ⟨s0, s1, s2, s3, s4⟩
                    go_simp
                    with_reducible rfl
                   rotate_left
                   ·simp only [Act.put, List.setIfInBounds_toArray, List.set_cons_zero, List.set_cons_succ, i64_w, i32_w]
                    rfl
                   refine take_ (i := 4) (N := some 113) (v := ?_) (a' := ?_) #[true, true, true, true, true, false, false, false, false, false, false, false, false, false] rfl rfl (take_ofW HT_.out HW_.out (by kernel_rfl)) (fun _ _ _ h => h) (Or.inl ⟨by rfl, ?_⟩) hHeld ?_ ?_
                   rotate_left
                   ·rintro w' ⟨s0, s1, s2, s3, s4⟩
                    go_simp
                    with_reducible rfl
                   rotate_left
                   ·simp only [Act.put, List.setIfInBounds_toArray, List.set_cons_zero, List.set_cons_succ, i64_w, i32_w]
                    rfl
                   refine take_ (i := 5) (N := some 114) (v := ?_) (a' := ?_) #[true, true, true, true, true, true, false, false, false, false, false, false, false, false] rfl rfl (take_ofW HT_.out HW_.out (by kernel_rfl)) (fun _ _ _ h => h) (Or.inl ⟨by rfl, ?_⟩) hHeld ?_ ?_
                   rotate_left
                   ·rintro w' ⟨s0, s1, s2, s3, s4⟩
                    go_simp
                    with_reducible rfl
                   rotate_left
                   ·simp only [Act.put, List.setIfInBounds_toArray, List.set_cons_zero, List.set_cons_succ, i64_w, i32_w]
                    rfl
                   refine join_ (σ := Value × Nat) 2 #[true, true, true, true, true, true, true, true, true, true, true, true, false, false] (fun s_ => [(115, s_.1), (116, .tuple #[.agg #[.int .i64 t516, .int .i64 t517], .int .i64 t518]), (17, .pointer (some ⟨s_.2, 0, none⟩)), (108, .tuple #[.agg #[.int .i64 t516, .int .i64 t517], .int .i64 t518]), (117, .agg #[.int .i64 t516, .int .i64 t517]), (118, .int .i64 t518)]) (fun s_ w' => (w'.cell? ⟨gb501, 0, none⟩ = some (.int .i64 t498) ∧ w'.cell? ⟨gb501, 1, none⟩ = some (.int .i64 t499) ∧ w'.cell? ⟨gb506, 0, none⟩ = some (.int .i64 t503) ∧ w'.cell? ⟨gb506, 1, none⟩ = some (.int .i64 t504) ∧ w'.cell? (ad512.add (x10_4).toNat) = some (.string (rdOf ByteArray.empty y491 x10_4))) ∧ (Kd.R k25 25 w' w.heap.size (fun k_ => k_ ≠ gb501 ∧ k_ ≠ gb506 ∧ k_ ≠ gb511 ∧ k_ ≠ s_.2) s_.1 y513) ∧ (Kd.R k39 39 w' w.heap.size (fun _ => True) (.slice Ao38 y482.length co38) y482) ∧ (Kd.R Kd.string 9 w' w.heap.size (fun k_ => some k_ ≠ (.slice (some ad497) y494.length co88 : Value).ownBlock) (.slice (some ad512) y491.length co103) y491) ∧ (Kd.R Kd.string 9 w' w.heap.size (fun k_ => some k_ ≠ (.slice (some ad512) y491.length co103 : Value).ownBlock) (.slice (some ad497) y494.length co88) y494) ∧ (w'.heap[gb501]? = some (.cells #[.int .i64 t498, .int .i64 t499] 25 (0, 0))) ∧ (w'.heap[gb506]? = some (.cells #[.int .i64 t503, .int .i64 t504] 25 (0, 0))) ∧ (w'.heap[gb511]? = some (.cells #[.int .i64 t508, .int .i64 t509] 25 (0, 0))) ∧ (w'.heap[s_.2]? = some (.cells #[.int .i64 0, .int .i64 0] 25 (0, 0))) ∧ (w.heap.size ≤ s_.2) ∧ (w.heap.size ≤ s_.2) ∧ (gb501 ≠ s_.2) ∧ (s_.2 ≠ gb501) ∧ (gb506 ≠ s_.2) ∧ (s_.2 ≠ gb506) ∧ (gb511 ≠ s_.2) ∧ (s_.2 ≠ gb511) ∧ (Below w.heap.size w w')) ?_ ?_
                   rotate_left
                   ·intro hCont
                    refine two_ (i := 6) (j := 11) (Ni := some 115) (Nj := some 17) #[true, true, true, true, true, true, true, false, false, false, false, false, false, false] #[true, true, true, true, true, true, false, false, false, false, false, true, false, false] rfl rfl rfl rfl (two_of HT_.out (by kernel_rfl)) (by decide) (by decide) (fun K hK => ?_) (fun K hK => ?_)
                    ·skip
                     refine Kd.R_lit_step k25 _ 25 ?hg (N := 115) ?hd (xs := ([(⟨t498, t499⟩ : S25), (⟨t503, t504⟩ : S25)] : List (S25))) (inner := [.int .i64 t498, .int .i64 t499, .int .i64 t503, .int .i64 t504]) (ok := fun _ => True) (okp := fun _ => True) ?hr ?hp (fun _ hk => hk) trivial (Below.refl _ _) (Nat.le_refl _) (by simp) ?_; (case hd => rfl); (case hg => rfl); (case hr => first | (go_simp; done) | (go_simp; rfl)); (case hp => exact (Reps.c2 (show Kd.M k25 _ _ _ (⟨t498, t499⟩ : S25) [.int .i64 t498, .int .i64 t499] from (k25_mkM _ _ _ (⟨t498, t499⟩ : S25) )) (Reps.c2 (show Kd.M k25 _ _ _ (⟨t503, t504⟩ : S25) [.int .i64 t503, .int .i64 t504] from (k25_mkM _ _ _ (⟨t503, t504⟩ : S25) )) (Reps.none _ _))))
                     intro v514 w104 ho105 hb hg_ hnew_
                     have HS4_ := (hb.cell (World.block_lt_of_cell? _ _ (hHeld.2.2.2.2))).trans (hHeld.2.2.2.2)
                     clear hg_ hnew_
                     (first | rw [← Ny513.out] at ho105 | (simp only [Int.reduceToNat] at ho105; rw [← Ny513.out] at ho105))
                     have n0_ := brb HO_5 hb
                     have n1_ := brb HO_8 hb
                     have n2_ := brb HO_9 hb
                     have n3_ := Sd.mk (Kd.R_lower (Kd.R_newB (Kd.R_newB (Kd.R_newB ho105 (g := gb501) (o := .cells #[.int .i64 t498, .int .i64 t499] 25 (0, 0)) (by exact blkF BK501.out)) (g := gb506) (o := .cells #[.int .i64 t503, .int .i64 t504] 25 (0, 0)) (by exact blkF BK506.out)) (g := gb511) (o := .cells #[.int .i64 t508, .int .i64 t509] 25 (0, 0)) (by exact blkF BK511.out)) (below_size bbl))
                     have n4_ := bkb BK501 hb
                     have n5_ := bkb BK506 hb
                     have n6_ := bkb BK511 hb
                     have n7_ := bsq w hb
                     clear HO_5 HO_8 HO_9 BK501 BK506 BK511 HB
                     have HO_5 := n0_
                     have HO_8 := n1_
                     have HO_9 := n2_
                     have HO515 := n3_
                     have BK501 := n4_
                     have BK506 := n5_
                     have BK511 := n6_
                     have HB := n7_
                     clear n0_ n1_ n2_ n3_ n4_ n5_ n6_ n7_
                     clear hb ho105
                     obtain ⟨Ao106, co106, eo106⟩ := Kd.R_slice HO515.out
                     (first | subst eo106 | (injection eo106 with f1_ f2_ f3_; have f4_ := f1_.symm; have f5_ := f3_.symm; clear f1_ f2_ f3_; subst f4_; subst f5_))
                     refine hK.out _ _ ⟨(blk_cell BK501.out 0).trans rfl, (blk_cell BK501.out 1).trans rfl, (blk_cell BK506.out 0).trans rfl, (blk_cell BK506.out 1).trans rfl, HS4_⟩ (fun hHeld => ?_)
                     clear hK K
                     refine norm_ (a' := ?_) ?_ ?_
                     rotate_left
                     ·show Act.put _ (some 115) _ = _
                      simp only [Act.put, List.setIfInBounds_toArray, List.set_cons_zero, List.set_cons_succ, i64_w, i32_w]
                      rfl
                     refine two_ (i := 7) (j := 11) (Ni := some 116) (Nj := some 17) #[true, true, true, true, true, true, true, true, false, false, false, false, false, false] #[true, true, true, true, true, true, true, false, false, false, false, true, false, false] rfl rfl rfl rfl (two_of HT_.out (by kernel_rfl)) (by decide) (by decide) (fun K hK => ?_) (fun K hK => ?_)
                     ·skip
                      refine goes_ Tryz.func17 (by kernel_rfl) rfl #[.string (rdOf ByteArray.empty y491 x10_4), .slice Ao106 y513.length co106] (by rfl) rfl rfl ma ?_
                      with_reducible refine (q8_Do.calls k4 (rdOf ByteArray.empty y491 x10_4) _ _ y513 t516 t517 t518 _ ?side1 ?side2 A53.out).mono ?_
                      (case side1 => repeat (first | exact (Kd.R_reads' HO515.out).2.2 | (with_reducible refine Kd.C_alloc ?_ _) | (with_reducible refine Kd.C_drewN ?_ _) | (with_reducible refine Kd.C_drew ?_)))
                      (case side2 => exact (Kd.R_reads' HO515.out).2.1)
                      rintro e w107 ⟨rfl, hb⟩
                      have HS4_ := (hb.cell (World.block_lt_of_cell? _ _ (hHeld.2.2.2.2))).trans (hHeld.2.2.2.2)
                      refine ⟨_, rfl, ?_⟩
                      have n0_ := brb HO_5 hb
                      have n1_ := brb HO_8 hb
                      have n2_ := brb HO_9 hb
                      have n3_ := brb HO515 hb
                      have n4_ := bkb BK501 hb
                      have n5_ := bkb BK506 hb
                      have n6_ := bkb BK511 hb
                      have n7_ := bsq w hb
                      clear HO_5 HO_8 HO_9 HO515 BK501 BK506 BK511 HB
                      have HO_5 := n0_
                      have HO_8 := n1_
                      have HO_9 := n2_
                      have HO515 := n3_
                      have BK501 := n4_
                      have BK506 := n5_
                      have BK511 := n6_
                      have HB := n7_
                      clear n0_ n1_ n2_ n3_ n4_ n5_ n6_ n7_
                      (try clear hb)
                      (try clear hb2)
                      (try clear hk)
                      (try clear hi)
                      refine hK.out _ _ ⟨(blk_cell BK501.out 0).trans rfl, (blk_cell BK501.out 1).trans rfl, (blk_cell BK506.out 0).trans rfl, (blk_cell BK506.out 1).trans rfl, HS4_⟩ (fun hHeld => ?_)
                      clear hK K
                      refine norm_ (a' := ?_) ?_ ?_
                      rotate_left
                      ·show Act.put _ (some 116) _ = _
                       simp only [Act.put, List.setIfInBounds_toArray, List.set_cons_zero, List.set_cons_succ, i64_w, i32_w]
                       rfl
                      refine pure_ (i := 8) (N := some 108) (v := ?_) (a' := ?_) #[true, true, true, true, true, true, true, true, true, false, false, false, false, false] rfl rfl (any_of HT_.out (by kernel_rfl)) (fun _ _ _ h => h) (Or.inl ⟨by rfl, ?_⟩) ?_ ?_
                      rotate_left
                      ·intro w'
                       go_simp
                       with_reducible rfl
                      rotate_left
                      ·simp only [Act.put, List.setIfInBounds_toArray, List.set_cons_zero, List.set_cons_succ, i64_w, i32_w]
                       rfl
                      refine pure_ (i := 9) (N := some 117) (v := ?_) (a' := ?_) #[true, true, true, true, true, true, true, true, true, true, false, false, false, false] rfl rfl (any_of HT_.out (by kernel_rfl)) (fun _ _ _ h => h) (Or.inl ⟨by rfl, ?_⟩) ?_ ?_
                      rotate_left
                      ·intro w'
                       go_simp
                       with_reducible rfl
                      rotate_left
                      ·simp only [Act.put, List.setIfInBounds_toArray, List.set_cons_zero, List.set_cons_succ, i64_w, i32_w]
                       rfl
                      refine pure_ (i := 10) (N := some 118) (v := ?_) (a' := ?_) #[true, true, true, true, true, true, true, true, true, true, true, false, false, false] rfl rfl (any_of HT_.out (by kernel_rfl)) (fun _ _ _ h => h) (Or.inl ⟨by rfl, ?_⟩) ?_ ?_
                      rotate_left
                      ·intro w'
                       go_simp
                       with_reducible rfl
                      rotate_left
                      ·simp only [Act.put, List.setIfInBounds_toArray, List.set_cons_zero, List.set_cons_succ, i64_w, i32_w]
                       rfl
                      refine one_ (i := 11) (N := some 17) #[true, true, true, true, true, true, true, true, true, true, true, true, false, false] rfl rfl (one_of HT_.out (by kernel_rfl)) (by decide) (fun K hK => ?_)
                      refine box_step ?hg (N := 17) ?hd (cs := #[.int .i64 0, .int .i64 0]) (t := 25) ?hr ?_; (case hd => rfl); (case hg => rfl); (case hr => first | (go_simp; done) | (go_simp; rfl))
                      intro gb519 hg w108 hbox hb
                      have HS4_ := (hb.cell (World.block_lt_of_cell? _ _ (hHeld.2.2.2.2))).trans (hHeld.2.2.2.2)
                      have n0_ := brb HO_5 hb
                      have n1_ := brb HO_8 hb
                      have n2_ := brb HO_9 hb
                      have n3_ := Sd.mk (Kd.R_below (Kd.R_elderB (by (repeat refine dR ?_); exact HO515.out) gb519 (Nat.le_of_eq hg.symm)) hb)
                      have n4_ := bkb BK501 hb
                      have n5_ := bkb BK506 hb
                      have n6_ := bkb BK511 hb
                      have n7_ := bsq w hb
                      have n8_ := Sd.mk (hbox)
                      have n9_ := bge w hg
                      have n10_ := bge w hg
                      have n11_ := bnl BK501 hg
                      have n12_ := bng BK501 hg
                      have n13_ := bnl BK506 hg
                      have n14_ := bng BK506 hg
                      have n15_ := bnl BK511 hg
                      have n16_ := bng BK511 hg
                      clear HO_5 HO_8 HO_9 HO515 BK501 BK506 BK511 HB
                      have HO_5 := n0_
                      have HO_8 := n1_
                      have HO_9 := n2_
                      have HO515 := n3_
                      have BK501 := n4_
                      have BK506 := n5_
                      have BK511 := n6_
                      have HB := n7_
                      have BK519 := n8_
                      have GW519 := n9_
                      have GE519 := n10_
                      have NB501_519 := n11_
                      have NB519_501 := n12_
                      have NB506_519 := n13_
                      have NB519_506 := n14_
                      have NB511_519 := n15_
                      have NB519_511 := n16_
                      clear n0_ n1_ n2_ n3_ n4_ n5_ n6_ n7_ n8_ n9_ n10_ n11_ n12_ n13_ n14_ n15_ n16_
                      clear hb hbox hg
                      refine hK.out _ _ ⟨(blk_cell BK501.out 0).trans rfl, (blk_cell BK501.out 1).trans rfl, (blk_cell BK506.out 0).trans rfl, (blk_cell BK506.out 1).trans rfl, HS4_⟩ (fun hHeld => ?_)
                      clear hK K
                      refine norm_ (a' := ?_) ?_ ?_
                      rotate_left
                      ·show Act.put _ (some 17) _ = _
                       simp only [Act.put, List.setIfInBounds_toArray, List.set_cons_zero, List.set_cons_succ, i64_w, i32_w]
                       rfl
                      exact norm_ (by simp only [putAll, Act.put, List.setIfInBounds_toArray, List.set_cons_zero, List.set_cons_succ]) (hCont (.slice Ao106 y513.length co106, gb519) _ ⟨hHeld, (by (repeat refine dR ?_); exact Kd.R_mono HO515.out (fun _ hk => ⟨hk.1.1.1.2, ⟨hk.1.1.2, ⟨hk.1.2, hk.2⟩⟩⟩)), (by (repeat refine dR ?_); exact HO_5.out), (by (repeat refine dR ?_); exact HO_8.out), (by (repeat refine dR ?_); exact HO_9.out), (by exact blkF BK501.out), (by exact blkF BK506.out), (by exact blkF BK511.out), (by exact blkF BK519.out), GW519.out, GE519.out, NB501_519.out, NB519_501.out, NB506_519.out, NB519_506.out, NB511_519.out, NB519_511.out, bbl⟩)
                     ·skip
                      refine box_step ?hg (N := 17) ?hd (cs := #[.int .i64 0, .int .i64 0]) (t := 25) ?hr ?_; (case hd => rfl); (case hg => rfl); (case hr => first | (go_simp; done) | (go_simp; rfl))
                      intro gb519 hg w106 hbox hb
                      have HS4_ := (hb.cell (World.block_lt_of_cell? _ _ (hHeld.2.2.2.2))).trans (hHeld.2.2.2.2)
                      have n0_ := brb HO_5 hb
                      have n1_ := brb HO_8 hb
                      have n2_ := brb HO_9 hb
                      have n3_ := Sd.mk (Kd.R_below (Kd.R_elderB (by (repeat refine dR ?_); exact HO515.out) gb519 (Nat.le_of_eq hg.symm)) hb)
                      have n4_ := bkb BK501 hb
                      have n5_ := bkb BK506 hb
                      have n6_ := bkb BK511 hb
                      have n7_ := bsq w hb
                      have n8_ := Sd.mk (hbox)
                      have n9_ := bge w hg
                      have n10_ := bge w hg
                      have n11_ := bnl BK501 hg
                      have n12_ := bng BK501 hg
                      have n13_ := bnl BK506 hg
                      have n14_ := bng BK506 hg
                      have n15_ := bnl BK511 hg
                      have n16_ := bng BK511 hg
                      clear HO_5 HO_8 HO_9 HO515 BK501 BK506 BK511 HB
                      have HO_5 := n0_
                      have HO_8 := n1_
                      have HO_9 := n2_
                      have HO515 := n3_
                      have BK501 := n4_
                      have BK506 := n5_
                      have BK511 := n6_
                      have HB := n7_
                      have BK519 := n8_
                      have GW519 := n9_
                      have GE519 := n10_
                      have NB501_519 := n11_
                      have NB519_501 := n12_
                      have NB506_519 := n13_
                      have NB519_506 := n14_
                      have NB511_519 := n15_
                      have NB519_511 := n16_
                      clear n0_ n1_ n2_ n3_ n4_ n5_ n6_ n7_ n8_ n9_ n10_ n11_ n12_ n13_ n14_ n15_ n16_
                      clear hb hbox hg
                      obtain ⟨Ao107, co107, eo107⟩ := Kd.R_slice HO515.out
                      (first | subst eo107 | (injection eo107 with f1_ f2_ f3_; have f4_ := f1_.symm; have f5_ := f3_.symm; clear f1_ f2_ f3_; subst f4_; subst f5_))
                      refine hK.out _ _ ⟨(blk_cell BK501.out 0).trans rfl, (blk_cell BK501.out 1).trans rfl, (blk_cell BK506.out 0).trans rfl, (blk_cell BK506.out 1).trans rfl, HS4_⟩ (fun hHeld => ?_)
                      clear hK K
                      refine norm_ (a' := ?_) ?_ ?_
                      rotate_left
                      ·show Act.put _ (some 17) _ = _
                       simp only [Act.put, List.setIfInBounds_toArray, List.set_cons_zero, List.set_cons_succ, i64_w, i32_w]
                       rfl
                      refine one_ (i := 7) (N := some 116) #[true, true, true, true, true, true, true, true, false, false, false, true, false, false] rfl rfl (one_of HT_.out (by kernel_rfl)) (by decide) (fun K hK => ?_)
                      refine goes_ Tryz.func17 (by kernel_rfl) rfl #[.string (rdOf ByteArray.empty y491 x10_4), .slice Ao107 y513.length co107] (by rfl) rfl rfl ma ?_
                      with_reducible refine (q8_Do.calls k4 (rdOf ByteArray.empty y491 x10_4) _ _ y513 t516 t517 t518 _ ?side1 ?side2 A53.out).mono ?_
                      (case side1 => repeat (first | exact (Kd.R_reads' HO515.out).2.2 | (with_reducible refine Kd.C_alloc ?_ _) | (with_reducible refine Kd.C_drewN ?_ _) | (with_reducible refine Kd.C_drew ?_)))
                      (case side2 => exact (Kd.R_reads' HO515.out).2.1)
                      rintro e w108 ⟨rfl, hb⟩
                      have HS4_ := (hb.cell (World.block_lt_of_cell? _ _ (hHeld.2.2.2.2))).trans (hHeld.2.2.2.2)
                      refine ⟨_, rfl, ?_⟩
                      have n0_ := brb HO_5 hb
                      have n1_ := brb HO_8 hb
                      have n2_ := brb HO_9 hb
                      have n3_ := brb HO515 hb
                      have n4_ := bkb BK501 hb
                      have n5_ := bkb BK506 hb
                      have n6_ := bkb BK511 hb
                      have n7_ := bkb BK519 hb
                      have n8_ := bsq w hb
                      clear HO_5 HO_8 HO_9 HO515 BK501 BK506 BK511 BK519 HB
                      have HO_5 := n0_
                      have HO_8 := n1_
                      have HO_9 := n2_
                      have HO515 := n3_
                      have BK501 := n4_
                      have BK506 := n5_
                      have BK511 := n6_
                      have BK519 := n7_
                      have HB := n8_
                      clear n0_ n1_ n2_ n3_ n4_ n5_ n6_ n7_ n8_
                      (try clear hb)
                      (try clear hb2)
                      (try clear hk)
                      (try clear hi)
                      refine hK.out _ _ ⟨(blk_cell BK501.out 0).trans rfl, (blk_cell BK501.out 1).trans rfl, (blk_cell BK506.out 0).trans rfl, (blk_cell BK506.out 1).trans rfl, HS4_⟩ (fun hHeld => ?_)
                      clear hK K
                      refine norm_ (a' := ?_) ?_ ?_
                      rotate_left
                      ·show Act.put _ (some 116) _ = _
                       simp only [Act.put, List.setIfInBounds_toArray, List.set_cons_zero, List.set_cons_succ, i64_w, i32_w]
                       rfl
                      refine pure_ (i := 8) (N := some 108) (v := ?_) (a' := ?_) #[true, true, true, true, true, true, true, true, true, false, false, true, false, false] rfl rfl (any_of HT_.out (by kernel_rfl)) (fun _ _ _ h => h) (Or.inl ⟨by rfl, ?_⟩) ?_ ?_
                      rotate_left
                      ·intro w'
                       go_simp
                       with_reducible rfl
                      rotate_left
                      ·simp only [Act.put, List.setIfInBounds_toArray, List.set_cons_zero, List.set_cons_succ, i64_w, i32_w]
                       rfl
                      refine pure_ (i := 9) (N := some 117) (v := ?_) (a' := ?_) #[true, true, true, true, true, true, true, true, true, true, false, true, false, false] rfl rfl (any_of HT_.out (by kernel_rfl)) (fun _ _ _ h => h) (Or.inl ⟨by rfl, ?_⟩) ?_ ?_
                      rotate_left
                      ·intro w'
                       go_simp
                       with_reducible rfl
                      rotate_left
                      ·simp only [Act.put, List.setIfInBounds_toArray, List.set_cons_zero, List.set_cons_succ, i64_w, i32_w]
                       rfl
                      refine pure_ (i := 10) (N := some 118) (v := ?_) (a' := ?_) #[true, true, true, true, true, true, true, true, true, true, true, true, false, false] rfl rfl (any_of HT_.out (by kernel_rfl)) (fun _ _ _ h => h) (Or.inl ⟨by rfl, ?_⟩) ?_ ?_
                      rotate_left
                      ·intro w'
                       go_simp
                       with_reducible rfl
                      rotate_left
                      ·simp only [Act.put, List.setIfInBounds_toArray, List.set_cons_zero, List.set_cons_succ, i64_w, i32_w]
                       rfl
                      exact norm_ (by simp only [putAll, Act.put, List.setIfInBounds_toArray, List.set_cons_zero, List.set_cons_succ]) (hCont (.slice Ao107 y513.length co107, gb519) _ ⟨hHeld, (by (repeat refine dR ?_); exact Kd.R_mono HO515.out (fun _ hk => ⟨hk.1.1.1.2, ⟨hk.1.1.2, ⟨hk.1.2, hk.2⟩⟩⟩)), (by (repeat refine dR ?_); exact HO_5.out), (by (repeat refine dR ?_); exact HO_8.out), (by (repeat refine dR ?_); exact HO_9.out), (by exact blkF BK501.out), (by exact blkF BK506.out), (by exact blkF BK511.out), (by exact blkF BK519.out), GW519.out, GE519.out, NB501_519.out, NB519_501.out, NB506_519.out, NB519_506.out, NB511_519.out, NB519_511.out, bbl⟩)
                    ·skip
                     refine box_step ?hg (N := 17) ?hd (cs := #[.int .i64 0, .int .i64 0]) (t := 25) ?hr ?_; (case hd => rfl); (case hg => rfl); (case hr => first | (go_simp; done) | (go_simp; rfl))
                     intro gb519 hg w104 hbox hb
                     have HS4_ := (hb.cell (World.block_lt_of_cell? _ _ (hHeld.2.2.2.2))).trans (hHeld.2.2.2.2)
                     have n0_ := brb HO_5 hb
                     have n1_ := brb HO_8 hb
                     have n2_ := brb HO_9 hb
                     have n3_ := bkb BK501 hb
                     have n4_ := bkb BK506 hb
                     have n5_ := bkb BK511 hb
                     have n6_ := bsq w hb
                     have n7_ := Sd.mk (hbox)
                     have n8_ := bge w hg
                     have n9_ := bge w hg
                     have n10_ := bnl BK501 hg
                     have n11_ := bng BK501 hg
                     have n12_ := bnl BK506 hg
                     have n13_ := bng BK506 hg
                     have n14_ := bnl BK511 hg
                     have n15_ := bng BK511 hg
                     clear HO_5 HO_8 HO_9 BK501 BK506 BK511 HB
                     have HO_5 := n0_
                     have HO_8 := n1_
                     have HO_9 := n2_
                     have BK501 := n3_
                     have BK506 := n4_
                     have BK511 := n5_
                     have HB := n6_
                     have BK519 := n7_
                     have GW519 := n8_
                     have GE519 := n9_
                     have NB501_519 := n10_
                     have NB519_501 := n11_
                     have NB506_519 := n12_
                     have NB519_506 := n13_
                     have NB511_519 := n14_
                     have NB519_511 := n15_
                     clear n0_ n1_ n2_ n3_ n4_ n5_ n6_ n7_ n8_ n9_ n10_ n11_ n12_ n13_ n14_ n15_
                     clear hb hbox hg
                     refine hK.out _ _ ⟨(blk_cell BK501.out 0).trans rfl, (blk_cell BK501.out 1).trans rfl, (blk_cell BK506.out 0).trans rfl, (blk_cell BK506.out 1).trans rfl, HS4_⟩ (fun hHeld => ?_)
                     clear hK K
                     refine norm_ (a' := ?_) ?_ ?_
                     rotate_left
                     ·show Act.put _ (some 17) _ = _
                      simp only [Act.put, List.setIfInBounds_toArray, List.set_cons_zero, List.set_cons_succ, i64_w, i32_w]
                      rfl
                     refine one_ (i := 6) (N := some 115) #[true, true, true, true, true, true, true, false, false, false, false, true, false, false] rfl rfl (one_of HT_.out (by kernel_rfl)) (by decide) (fun K hK => ?_)
                     refine Kd.R_lit_step k25 _ 25 ?hg (N := 115) ?hd (xs := ([(⟨t498, t499⟩ : S25), (⟨t503, t504⟩ : S25)] : List (S25))) (inner := [.int .i64 t498, .int .i64 t499, .int .i64 t503, .int .i64 t504]) (ok := fun _ => True) (okp := fun _ => True) ?hr ?hp (fun _ hk => hk) trivial (Below.refl _ _) (Nat.le_refl _) (by simp) ?_; (case hd => rfl); (case hg => rfl); (case hr => first | (go_simp; done) | (go_simp; rfl)); (case hp => exact (Reps.c2 (show Kd.M k25 _ _ _ (⟨t498, t499⟩ : S25) [.int .i64 t498, .int .i64 t499] from (k25_mkM _ _ _ (⟨t498, t499⟩ : S25) )) (Reps.c2 (show Kd.M k25 _ _ _ (⟨t503, t504⟩ : S25) [.int .i64 t503, .int .i64 t504] from (k25_mkM _ _ _ (⟨t503, t504⟩ : S25) )) (Reps.none _ _))))
                     intro v514 w105 ho106 hb hg_ hnew_
                     have HS4_ := (hb.cell (World.block_lt_of_cell? _ _ (hHeld.2.2.2.2))).trans (hHeld.2.2.2.2)
                     clear hg_ hnew_
                     (first | rw [← Ny513.out] at ho106 | (simp only [Int.reduceToNat] at ho106; rw [← Ny513.out] at ho106))
                     have n0_ := brb HO_5 hb
                     have n1_ := brb HO_8 hb
                     have n2_ := brb HO_9 hb
                     have n3_ := Sd.mk (Kd.R_lower (Kd.R_newB (Kd.R_newB (Kd.R_newB (Kd.R_newB ho106 (g := gb501) (o := .cells #[.int .i64 t498, .int .i64 t499] 25 (0, 0)) (by exact blkF BK501.out)) (g := gb506) (o := .cells #[.int .i64 t503, .int .i64 t504] 25 (0, 0)) (by exact blkF BK506.out)) (g := gb511) (o := .cells #[.int .i64 t508, .int .i64 t509] 25 (0, 0)) (by exact blkF BK511.out)) (g := gb519) (o := .cells #[.int .i64 0, .int .i64 0] 25 (0, 0)) (by exact blkF BK519.out)) (below_size bbl))
                     have n4_ := bkb BK501 hb
                     have n5_ := bkb BK506 hb
                     have n6_ := bkb BK511 hb
                     have n7_ := bkb BK519 hb
                     have n8_ := bsq w hb
                     clear HO_5 HO_8 HO_9 BK501 BK506 BK511 BK519 HB
                     have HO_5 := n0_
                     have HO_8 := n1_
                     have HO_9 := n2_
                     have HO515 := n3_
                     have BK501 := n4_
                     have BK506 := n5_
                     have BK511 := n6_
                     have BK519 := n7_
                     have HB := n8_
                     clear n0_ n1_ n2_ n3_ n4_ n5_ n6_ n7_ n8_
                     clear hb ho106
                     obtain ⟨Ao107, co107, eo107⟩ := Kd.R_slice HO515.out
                     (first | subst eo107 | (injection eo107 with f1_ f2_ f3_; have f4_ := f1_.symm; have f5_ := f3_.symm; clear f1_ f2_ f3_; subst f4_; subst f5_))
                     refine hK.out _ _ ⟨(blk_cell BK501.out 0).trans rfl, (blk_cell BK501.out 1).trans rfl, (blk_cell BK506.out 0).trans rfl, (blk_cell BK506.out 1).trans rfl, HS4_⟩ (fun hHeld => ?_)
                     clear hK K
                     refine norm_ (a' := ?_) ?_ ?_
                     rotate_left
                     ·show Act.put _ (some 115) _ = _
                      simp only [Act.put, List.setIfInBounds_toArray, List.set_cons_zero, List.set_cons_succ, i64_w, i32_w]
                      rfl
                     refine one_ (i := 7) (N := some 116) #[true, true, true, true, true, true, true, true, false, false, false, true, false, false] rfl rfl (one_of HT_.out (by kernel_rfl)) (by decide) (fun K hK => ?_)
                     refine goes_ Tryz.func17 (by kernel_rfl) rfl #[.string (rdOf ByteArray.empty y491 x10_4), .slice Ao107 y513.length co107] (by rfl) rfl rfl ma ?_
                     with_reducible refine (q8_Do.calls k4 (rdOf ByteArray.empty y491 x10_4) _ _ y513 t516 t517 t518 _ ?side1 ?side2 A53.out).mono ?_
                     (case side1 => repeat (first | exact (Kd.R_reads' HO515.out).2.2 | (with_reducible refine Kd.C_alloc ?_ _) | (with_reducible refine Kd.C_drewN ?_ _) | (with_reducible refine Kd.C_drew ?_)))
                     (case side2 => exact (Kd.R_reads' HO515.out).2.1)
                     rintro e w108 ⟨rfl, hb⟩
                     have HS4_ := (hb.cell (World.block_lt_of_cell? _ _ (hHeld.2.2.2.2))).trans (hHeld.2.2.2.2)
                     refine ⟨_, rfl, ?_⟩
                     have n0_ := brb HO_5 hb
                     have n1_ := brb HO_8 hb
                     have n2_ := brb HO_9 hb
                     have n3_ := brb HO515 hb
                     have n4_ := bkb BK501 hb
                     have n5_ := bkb BK506 hb
                     have n6_ := bkb BK511 hb
                     have n7_ := bkb BK519 hb
                     have n8_ := bsq w hb
                     clear HO_5 HO_8 HO_9 HO515 BK501 BK506 BK511 BK519 HB
                     have HO_5 := n0_
                     have HO_8 := n1_
                     have HO_9 := n2_
                     have HO515 := n3_
                     have BK501 := n4_
                     have BK506 := n5_
                     have BK511 := n6_
                     have BK519 := n7_
                     have HB := n8_
                     clear n0_ n1_ n2_ n3_ n4_ n5_ n6_ n7_ n8_
                     (try clear hb)
                     (try clear hb2)
                     (try clear hk)
                     (try clear hi)
                     refine hK.out _ _ ⟨(blk_cell BK501.out 0).trans rfl, (blk_cell BK501.out 1).trans rfl, (blk_cell BK506.out 0).trans rfl, (blk_cell BK506.out 1).trans rfl, HS4_⟩ (fun hHeld => ?_)
                     clear hK K
                     refine norm_ (a' := ?_) ?_ ?_
                     rotate_left
                     ·show Act.put _ (some 116) _ = _
                      simp only [Act.put, List.setIfInBounds_toArray, List.set_cons_zero, List.set_cons_succ, i64_w, i32_w]
                      rfl
                     refine pure_ (i := 8) (N := some 108) (v := ?_) (a' := ?_) #[true, true, true, true, true, true, true, true, true, false, false, true, false, false] rfl rfl (any_of HT_.out (by kernel_rfl)) (fun _ _ _ h => h) (Or.inl ⟨by rfl, ?_⟩) ?_ ?_
                     rotate_left
                     ·intro w'
                      go_simp
                      with_reducible rfl
                     rotate_left
                     ·simp only [Act.put, List.setIfInBounds_toArray, List.set_cons_zero, List.set_cons_succ, i64_w, i32_w]
                      rfl
                     refine pure_ (i := 9) (N := some 117) (v := ?_) (a' := ?_) #[true, true, true, true, true, true, true, true, true, true, false, true, false, false] rfl rfl (any_of HT_.out (by kernel_rfl)) (fun _ _ _ h => h) (Or.inl ⟨by rfl, ?_⟩) ?_ ?_
                     rotate_left
                     ·intro w'
                      go_simp
                      with_reducible rfl
                     rotate_left
                     ·simp only [Act.put, List.setIfInBounds_toArray, List.set_cons_zero, List.set_cons_succ, i64_w, i32_w]
                      rfl
                     refine pure_ (i := 10) (N := some 118) (v := ?_) (a' := ?_) #[true, true, true, true, true, true, true, true, true, true, true, true, false, false] rfl rfl (any_of HT_.out (by kernel_rfl)) (fun _ _ _ h => h) (Or.inl ⟨by rfl, ?_⟩) ?_ ?_
                     rotate_left
                     ·intro w'
                      go_simp
                      with_reducible rfl
                     rotate_left
                     ·simp only [Act.put, List.setIfInBounds_toArray, List.set_cons_zero, List.set_cons_succ, i64_w, i32_w]
                      rfl
                     exact norm_ (by simp only [putAll, Act.put, List.setIfInBounds_toArray, List.set_cons_zero, List.set_cons_succ]) (hCont (.slice Ao107 y513.length co107, gb519) _ ⟨hHeld, (by (repeat refine dR ?_); exact Kd.R_mono HO515.out (fun _ hk => ⟨hk.1.1.1.2, ⟨hk.1.1.2, ⟨hk.1.2, hk.2⟩⟩⟩)), (by (repeat refine dR ?_); exact HO_5.out), (by (repeat refine dR ?_); exact HO_8.out), (by (repeat refine dR ?_); exact HO_9.out), (by exact blkF BK501.out), (by exact blkF BK506.out), (by exact blkF BK511.out), (by exact blkF BK519.out), GW519.out, GE519.out, NB501_519.out, NB519_501.out, NB506_519.out, NB519_506.out, NB511_519.out, NB519_511.out, bbl⟩)
                   rintro ⟨v514, gb519⟩ w109 ⟨hS_, h0_, h1_, h2_, h3_, h4_, h5_, h6_, h7_, h8_, h9_, h10_, h11_, h12_, h13_, h14_, h15_, h16_⟩
                   have n0_ : Sd (Kd.R k25 25 w109 w.heap.size (fun k_ => k_ ≠ gb501 ∧ k_ ≠ gb506 ∧ k_ ≠ gb511 ∧ k_ ≠ gb519) v514 y513) := ⟨h0_⟩
                   have n1_ : Sd (Kd.R k39 39 w109 w.heap.size (fun _ => True) (.slice Ao38 y482.length co38) y482) := ⟨h1_⟩
                   have n2_ : Sd (Kd.R Kd.string 9 w109 w.heap.size (fun k_ => some k_ ≠ (.slice (some ad497) y494.length co88 : Value).ownBlock) (.slice (some ad512) y491.length co103) y491) := ⟨h2_⟩
                   have n3_ : Sd (Kd.R Kd.string 9 w109 w.heap.size (fun k_ => some k_ ≠ (.slice (some ad512) y491.length co103 : Value).ownBlock) (.slice (some ad497) y494.length co88) y494) := ⟨h3_⟩
                   have n4_ : Sd (w109.heap[gb501]? = some (.cells #[.int .i64 t498, .int .i64 t499] 25 (0, 0))) := ⟨h4_⟩
                   have n5_ : Sd (w109.heap[gb506]? = some (.cells #[.int .i64 t503, .int .i64 t504] 25 (0, 0))) := ⟨h5_⟩
                   have n6_ : Sd (w109.heap[gb511]? = some (.cells #[.int .i64 t508, .int .i64 t509] 25 (0, 0))) := ⟨h6_⟩
                   have n7_ : Sd (w109.heap[gb519]? = some (.cells #[.int .i64 0, .int .i64 0] 25 (0, 0))) := ⟨h7_⟩
                   have n8_ : Sd (w.heap.size ≤ gb519) := ⟨h8_⟩
                   have n9_ : Sd (w.heap.size ≤ gb519) := ⟨h9_⟩
                   have n10_ : Sd (gb501 ≠ gb519) := ⟨h10_⟩
                   have n11_ : Sd (gb519 ≠ gb501) := ⟨h11_⟩
                   have n12_ : Sd (gb506 ≠ gb519) := ⟨h12_⟩
                   have n13_ : Sd (gb519 ≠ gb506) := ⟨h13_⟩
                   have n14_ : Sd (gb511 ≠ gb519) := ⟨h14_⟩
                   have n15_ : Sd (gb519 ≠ gb511) := ⟨h15_⟩
                   have n16_ : Sd (Below w.heap.size w w109) := ⟨h16_⟩
                   clear HO_5 HO_8 HO_9 BK501 BK506 BK511 HB
                   clear h0_ h1_ h2_ h3_ h4_ h5_ h6_ h7_ h8_ h9_ h10_ h11_ h12_ h13_ h14_ h15_ h16_
                   have HO515 := n0_
                   have HO_5 := n1_
                   have HO_8 := n2_
                   have HO_9 := n3_
                   have BK501 := n4_
                   have BK506 := n5_
                   have BK511 := n6_
                   have BK519 := n7_
                   have GW519 := n8_
                   have GE519 := n9_
                   have NB501_519 := n10_
                   have NB519_501 := n11_
                   have NB506_519 := n12_
                   have NB519_506 := n13_
                   have NB511_519 := n14_
                   have NB519_511 := n15_
                   have HB := n16_
                   clear n0_ n1_ n2_ n3_ n4_ n5_ n6_ n7_ n8_ n9_ n10_ n11_ n12_ n13_ n14_ n15_ n16_
                   have hHeld : w109.cell? ⟨gb501, 0, none⟩ = some (.int .i64 t498) ∧ w109.cell? ⟨gb501, 1, none⟩ = some (.int .i64 t499) ∧ w109.cell? ⟨gb506, 0, none⟩ = some (.int .i64 t503) ∧ w109.cell? ⟨gb506, 1, none⟩ = some (.int .i64 t504) ∧ w109.cell? (ad512.add (x10_4).toNat) = some (.string (rdOf ByteArray.empty y491 x10_4)) := hS_
                   refine norm_ (a' := ?_) ?_ ?_
                   rotate_left
                   ·simp only [putAll, Act.put, List.setIfInBounds_toArray, List.set_cons_zero, List.set_cons_succ]
                    rfl
                   refine one_ (i := 12) (N := none) #[true, true, true, true, true, true, true, true, true, true, true, true, true, false] rfl rfl (one_of HT_.out (by kernel_rfl)) (by decide) (fun K hK => ?_)
                   have hs110 : w109.cell? ⟨gb519, 0, none⟩ = some (.int .i64 0) := (blk_cell BK519.out 0).trans rfl
                   have hfs110 := blk_frozen BK519.out 0
                   have hns110_0 := NB501_519.out
                   have hns110_1 := NB506_519.out
                   have hns110_2 := NB511_519.out
                   have hms110_0 := NB519_501.out
                   have hms110_1 := NB519_506.out
                   have hms110_2 := NB519_511.out
                   have hs111 : w109.cell? ⟨gb519, 1, none⟩ = some (.int .i64 0) := (blk_cell BK519.out 1).trans rfl
                   have hfs111 := blk_frozen BK519.out 1
                   have hns111_0 := NB501_519.out
                   have hns111_1 := NB506_519.out
                   have hns111_2 := NB511_519.out
                   have hms111_0 := NB519_501.out
                   have hms111_1 := NB519_506.out
                   have hms111_2 := NB519_511.out
                   refine skip_ (w1 := ?_) (by rfl) rfl ?_ ?_
                   rotate_left
                   ·go_simp
                    rfl
                   refine hK.out _ _ ⟨((cell_far (p := ⟨gb519, _, none⟩) NB501_519.out _).trans (((cell_far (p := ⟨gb519, _, none⟩) NB501_519.out _).trans (hHeld.1)))), ((cell_far (p := ⟨gb519, _, none⟩) NB501_519.out _).trans (((cell_far (p := ⟨gb519, _, none⟩) NB501_519.out _).trans (hHeld.2.1)))), ((cell_far (p := ⟨gb519, _, none⟩) NB506_519.out _).trans (((cell_far (p := ⟨gb519, _, none⟩) NB506_519.out _).trans (hHeld.2.2.1)))), ((cell_far (p := ⟨gb519, _, none⟩) NB506_519.out _).trans (((cell_far (p := ⟨gb519, _, none⟩) NB506_519.out _).trans (hHeld.2.2.2.1)))), ((cell_far (p := ⟨gb519, _, none⟩) (by first | exact Kd.own_blk (Kd.R_ne HO_8.out BK519.out (by decide)) | (rw [add_block]; exact Kd.own_blk (Kd.R_ne HO_8.out BK519.out (by decide))) | (show (Addr.add _ _).block ≠ _; rw [add_block]; exact Kd.own_blk (Kd.R_ne HO_8.out BK519.out (by decide))) | (dsimp only; exact Kd.own_blk (Kd.R_ne HO_8.out BK519.out (by decide)))) _).trans (((cell_far (p := ⟨gb519, _, none⟩) (by first | exact Kd.own_blk (Kd.R_ne HO_8.out BK519.out (by decide)) | (rw [add_block]; exact Kd.own_blk (Kd.R_ne HO_8.out BK519.out (by decide))) | (show (Addr.add _ _).block ≠ _; rw [add_block]; exact Kd.own_blk (Kd.R_ne HO_8.out BK519.out (by decide))) | (dsimp only; exact Kd.own_blk (Kd.R_ne HO_8.out BK519.out (by decide)))) _).trans (hHeld.2.2.2.2))))⟩ (fun hHeld => ?_)
                   clear hK K
                   refine pure_ (i := 13) (N := some 18) (v := ?_) (a' := ?_) #[true, true, true, true, true, true, true, true, true, true, true, true, true, true] rfl rfl (any_of HT_.out (by kernel_rfl)) (fun _ _ _ h => h) (Or.inl ⟨by rfl, ?_⟩) ?_ ?_
                   rotate_left
                   ·intro w'
                    go_simp
                    with_reducible rfl
                   rotate_left
                   ·simp only [Act.put, List.setIfInBounds_toArray, List.set_cons_zero, List.set_cons_succ, i64_w, i32_w]
                    rfl
                   refine done_ (done_of HT_.out (by kernel_rfl)) ?_
                   try go_wp2_with (first | ((with_reducible refine gate_callee (f := 12) rfl ?_); refine goesL_ (some 120) rfl rfl Tryz.func12 (by kernel_rfl) rfl #[.int .i64 t500] rfl ma ?_; (with_reducible refine (l10_num.calls t500 t520 _ A54.out).mono ?_); rintro e w' ⟨rfl, ⟨nd, rfl⟩⟩; refine ⟨_, rfl, ?_⟩) | ((with_reducible refine gate_callee (f := 12) rfl ?_); refine goesL_ (some 122) rfl rfl Tryz.func12 (by kernel_rfl) rfl #[.int .i64 t505] rfl ma ?_; (with_reducible refine (l10_num.calls t505 t521 _ A55.out).mono ?_); rintro e w' ⟨rfl, ⟨nd, rfl⟩⟩; refine ⟨_, rfl, ?_⟩) | ((with_reducible refine gate_callee (f := 12) rfl ?_); refine goesL_ (some 125) rfl rfl Tryz.func12 (by kernel_rfl) rfl #[.int .i64 t510] rfl ma ?_; (with_reducible refine (l10_num.calls t510 t522 _ A56.out).mono ?_); rintro e w' ⟨rfl, ⟨nd, rfl⟩⟩; refine ⟨_, rfl, ?_⟩; have hnb112 := NB519_501.out; have hnc112 := NB501_519.out; have hnb113 := NB519_506.out; have hnc113 := NB506_519.out; have hnb114 := NB519_511.out; have hnc114 := NB511_519.out; have hcz115_0 := bz0 BK519; have hcz115_1 := bz1 BK519; have hfz115_0 := blk_frozen BK519.out 0; have hfz115_1 := blk_frozen BK519.out 1; have hcz116_0 := bz0 BK511; have hcz116_1 := bz1 BK511; have hfz116_0 := blk_frozen BK511.out 0; have hfz116_1 := blk_frozen BK511.out 1))
                   go_roundg k4
                   case measure => have := HJ2.out; have := HK2.out; have := HJ36.out; have := HK4.out; omega
                   case rel => exact ⟨(wrap64 (x10_4 + 1)), ae, H', ⟨by have := HJ2.out; have := HK2.out; have := HJ36.out; have := HK4.out; omega⟩, ⟨by (repeat refine dR ?_); exact Kd.R_mono (Kd.R_far (p := ⟨gb519, 1, none⟩) (Kd.R_far (p := ⟨gb519, 0, none⟩) (Kd.R_types HO_5.out BK519.out (by decide)) (fun _ hk => hk.2) (.int .i64 t516)) (fun _ hk => hk.2) (.int .i64 t517)) (fun _ hk => trivial)⟩, ⟨by (repeat refine dR ?_); exact Kd.R_mono (Kd.R_far (p := ⟨gb519, 1, none⟩) (Kd.R_far (p := ⟨gb519, 0, none⟩) (Kd.R_types HO_8.out BK519.out (by decide)) (fun _ hk => hk.2) (.int .i64 t516)) (fun _ hk => hk.2) (.int .i64 t517)) (fun _ hk => hk.1)⟩, ⟨by (repeat refine dR ?_); exact Kd.R_mono (Kd.R_far (p := ⟨gb519, 1, none⟩) (Kd.R_far (p := ⟨gb519, 0, none⟩) (Kd.R_types HO_9.out BK519.out (by decide)) (fun _ hk => hk.2) (.int .i64 t516)) (fun _ hk => hk.2) (.int .i64 t517)) (fun _ hk => hk.1)⟩, ⟨bbl⟩⟩
                 ·rw [if_neg c57] at H; cases H
                ·rw [if_neg c52] at H
                 exact absurd H (by simp)
               ·rw [if_neg c48] at H
                exact absurd H (by simp)
              ·rw [if_neg c47] at H
               have c47b0 : decide (x10_4 < (y494.length : Int)) = false := decide_eq_false c47
               clear c47
               obtain ⟨⟨t523, t524, t525⟩, A141, H⟩ := bnd H
               replace H : ((s_Reduce.f (⟨#[109, 105, 110]⟩ : ByteArray) true l1).bind fun bt527 => ((s_Reduce.f (⟨#[109, 105, 110]⟩ : ByteArray) true y482).bind fun bt531 => (if bt531.2.1 = (mn t524 bt527.2.1) then (if bt531.1 = 1 then ((l10_live.f).bind fun t535 => (some t535)) else (none)) else (none)))) = some r := H
               obtain ⟨⟨t527, t528, t529⟩, A142, H⟩ := bnd H
               replace H : ((s_Reduce.f (⟨#[109, 105, 110]⟩ : ByteArray) true y482).bind fun bt531 => (if bt531.2.1 = (mn t524 t528) then (if bt531.1 = 1 then ((l10_live.f).bind fun t535 => (some t535)) else (none)) else (none))) = some r := H
               obtain ⟨⟨t531, t532, t533⟩, A143, H⟩ := bnd H
               replace H : (if t532 = (mn t524 t528) then (if t531 = 1 then ((l10_live.f).bind fun t535 => (some t535)) else (none)) else (none)) = some r := H
               obtain ⟨ji144, hji144⟩ : ∃ j_ : Int, (mn t524 t528) = j_ := ⟨_, rfl⟩
               replace H : (if t532 = (ji144) then (if t531 = 1 then ((l10_live.f).bind fun t535 => (some t535)) else (none)) else (none)) = some r := by first | (rw [hji144] at H; exact H) | (simp only [hji144] at H ⊢; exact H)
               (try rw [hji144] at A141)
               (try rw [hji144] at A142)
               (try rw [hji144] at A143)
               have hji144_ : (if t528 < t524 then t528 else t524) = ji144 := hji144
               by_cases c145 : t532 = (ji144)
               ·rw [if_pos c145] at H
                have c145b0 : (t532 == (ji144)) = true := beq_iff_eq.mpr c145
                have c145b1 : (t532 != (ji144)) = false := bne_eq_false_iff_eq.mpr c145
                clear c145
                by_cases c146 : t531 = 1
                ·rw [if_pos c146] at H
                 have c146b0 := beq_iff_eq.mpr c146
                 have c146b1 := bne_eq_false_iff_eq.mpr c146
                 clear c146
                 obtain ⟨t535, A147, H⟩ := bnd H
                 obtain rfl := Option.some.inj H
                 obtain ⟨Ao148, co148, eo148⟩ := Kd.R_slice HO_9.out
                 subst eo148
                 go_wp2_with (first | ((with_reducible refine gate_callee (f := 10) rfl ?_); refine goesL_ (some 135) rfl rfl Tryz.func10 (by kernel_rfl) rfl #[.string (⟨#[109, 105, 110]⟩ : ByteArray), .bool true, .slice A0 l0.length c0] rfl ma ?_; (with_reducible refine (s_Reduce.calls (⟨#[109, 105, 110]⟩ : ByteArray) true _ _ l0 t523 t524 t525 _ ?side1 ?side2 A141.out).mono ?_); (case side1 => repeat (first | exact (Kd.C_below HR0.out HB.out) | (with_reducible refine Kd.C_alloc ?_ _) | (with_reducible refine Kd.C_drewN ?_ _) | (with_reducible refine Kd.C_drew ?_))); (case side2 => exact HC0.out); rintro e w149 ⟨rfl, hb⟩; refine ⟨_, rfl, ?_⟩; replace HO_5 := brb HO_5 hb; replace HO_8 := brb HO_8 hb; replace HO_9 := brb HO_9 hb; replace HB := bsq w hb; (try clear hb)) | ((with_reducible refine gate_dst (N := 19) rfl ?_); (try (refine gate_guard (by rfl) ?_; dsimp only)); refine bxe (N := 19) (cs := #[.int .i64 0, .int .i64 0]) (t := 25) ?_; intro gb526 hg w150 hbox hb; have BK526 := Sd.mk hbox; have GW526 := bge w hg; have GE526 := bge w hg; replace HO_5 := brb HO_5 hb; replace HO_8 := brb HO_8 hb; replace HO_9 := brb HO_9 hb; replace HB := bsq w hb; clear hb hbox hg; have hcz151_0 := bz0 BK526; have hcz151_1 := bz1 BK526; have hfz151_0 := blk_frozen BK526.out 0; have hfz151_1 := blk_frozen BK526.out 1) | ((with_reducible refine gate_callee (f := 10) rfl ?_); refine goesL_ (some 140) rfl rfl Tryz.func10 (by kernel_rfl) rfl #[.string (⟨#[109, 105, 110]⟩ : ByteArray), .bool true, .slice A1 l1.length c1] rfl ma ?_; (with_reducible refine (s_Reduce.calls (⟨#[109, 105, 110]⟩ : ByteArray) true _ _ l1 t527 t528 t529 _ ?side1 ?side2 A142.out).mono ?_); (case side1 => exact Kd.C_below HR1.out bbl); (case side2 => exact HC1.out); rintro e w152 ⟨rfl, hb⟩; refine ⟨_, rfl, ?_⟩; have n0_ := Sd.mk (Kd.R_below (by (repeat refine dR ?_); exact (Kd.R_mono (Kd.R_far (p := ⟨gb526, 1, none⟩) (Kd.R_far (p := ⟨gb526, 0, none⟩) (Kd.R_types HO_5.out BK526.out (by decide)) (fun _ hk => hk.2) (.int .i64 t523)) (fun _ hk => hk.2) (.int .i64 t524)) (fun _ h_ => h_.1))) hb); have n1_ := Sd.mk (Kd.R_below (by (repeat refine dR ?_); exact (Kd.R_mono (Kd.R_far (p := ⟨gb526, 1, none⟩) (Kd.R_far (p := ⟨gb526, 0, none⟩) (Kd.R_types HO_8.out BK526.out (by decide)) (fun _ hk => hk.2) (.int .i64 t523)) (fun _ hk => hk.2) (.int .i64 t524)) (fun _ h_ => h_.1))) hb); have n2_ := Sd.mk (Kd.R_below (by (repeat refine dR ?_); exact (Kd.R_mono (Kd.R_far (p := ⟨gb526, 1, none⟩) (Kd.R_far (p := ⟨gb526, 0, none⟩) (Kd.R_types HO_9.out BK526.out (by decide)) (fun _ hk => hk.2) (.int .i64 t523)) (fun _ hk => hk.2) (.int .i64 t524)) (fun _ h_ => h_.1))) hb); have n3_ := Sd.mk (blk_below (g := gb526) (o := .cells #[.int .i64 t523, .int .i64 t524] 25 (0, 0)) (by (repeat refine dw ?_); refine blk_put (cs := #[.int .i64 t523, .int .i64 0]) ?_ 1 _ rfl; (repeat refine dw ?_); refine blk_put (cs := #[.int .i64 0, .int .i64 0]) ?_ 0 _ rfl; (repeat refine dw ?_); exact BK526.out) hb); have n4_ := bsq w hb; clear HO_5; clear HO_8; clear HO_9; clear BK526; clear HB; have HO_5 := n0_; have HO_8 := n1_; have HO_9 := n2_; have BK526 := n3_; have HB := n4_; clear n0_ n1_ n2_ n3_ n4_; (try clear hb)) | ((with_reducible refine gate_dst (N := 21) rfl ?_); (try (refine gate_guard (by rfl) ?_; dsimp only)); refine bxe (N := 21) (cs := #[.int .i64 0, .int .i64 0]) (t := 25) ?_; intro gb530 hg w153 hbox hb; have BK530 := Sd.mk hbox; have GW530 := bge w hg; have GE530 := bge w hg; have NB526_530 := bnl BK526 hg; have NB530_526 := bng BK526 hg; replace HO_5 := brb HO_5 hb; replace HO_8 := brb HO_8 hb; replace HO_9 := brb HO_9 hb; replace BK526 := bkb BK526 hb; replace HB := bsq w hb; clear hb hbox hg; have hnb154 := NB530_526.out; have hnc154 := NB526_530.out; have hcz155_0 := bz0 BK530; have hcz155_1 := bz1 BK530; have hfz155_0 := blk_frozen BK530.out 0; have hfz155_1 := blk_frozen BK530.out 1) | ((with_reducible refine gate_callee (f := 10) rfl ?_); refine goesL_ (some 145) rfl rfl Tryz.func10 (by kernel_rfl) rfl #[.string (⟨#[109, 105, 110]⟩ : ByteArray), .bool true, .slice Ao38 y482.length co38] rfl ma ?_; (with_reducible refine (s_Reduce.calls (⟨#[109, 105, 110]⟩ : ByteArray) true _ _ y482 t531 t532 t533 _ ?side1 ?side2 A143.out).mono ?_); (case side1 => refine (Kd.R_reads' (e := 39) (base := w.heap.size) (ok := fun k_ => True) (n := y482.length) (c := co38) ?_).2.2; exact (by (repeat refine dR ?_); exact (Kd.R_mono (Kd.R_far (p := ⟨gb530, 1, none⟩) (Kd.R_far (p := ⟨gb530, 0, none⟩) (Kd.R_types HO_5.out BK530.out (by decide)) (fun _ hk => hk.2) (.int .i64 t527)) (fun _ hk => hk.2) (.int .i64 t528)) (fun _ h_ => h_.1)))); (case side2 => exact (Kd.R_reads' HO_5.out).2.1); rintro e w156 ⟨rfl, hb⟩; refine ⟨_, rfl, ?_⟩; have n0_ := Sd.mk (Kd.R_below (by (repeat refine dR ?_); exact (Kd.R_mono (Kd.R_far (p := ⟨gb530, 1, none⟩) (Kd.R_far (p := ⟨gb530, 0, none⟩) (Kd.R_types HO_5.out BK530.out (by decide)) (fun _ hk => hk.2) (.int .i64 t527)) (fun _ hk => hk.2) (.int .i64 t528)) (fun _ h_ => h_.1))) hb); have n1_ := Sd.mk (Kd.R_below (by (repeat refine dR ?_); exact (Kd.R_mono (Kd.R_far (p := ⟨gb530, 1, none⟩) (Kd.R_far (p := ⟨gb530, 0, none⟩) (Kd.R_types HO_8.out BK530.out (by decide)) (fun _ hk => hk.2) (.int .i64 t527)) (fun _ hk => hk.2) (.int .i64 t528)) (fun _ h_ => h_.1))) hb); have n2_ := Sd.mk (Kd.R_below (by (repeat refine dR ?_); exact (Kd.R_mono (Kd.R_far (p := ⟨gb530, 1, none⟩) (Kd.R_far (p := ⟨gb530, 0, none⟩) (Kd.R_types HO_9.out BK530.out (by decide)) (fun _ hk => hk.2) (.int .i64 t527)) (fun _ hk => hk.2) (.int .i64 t528)) (fun _ h_ => h_.1))) hb); have n3_ := Sd.mk (blk_below (g := gb526) (o := .cells #[.int .i64 t523, .int .i64 t524] 25 (0, 0)) (by (repeat refine dw ?_); refine blk_far ?_ NB526_530.out _; (repeat refine dw ?_); refine blk_far ?_ NB526_530.out _; (repeat refine dw ?_); exact BK526.out) hb); have n4_ := Sd.mk (blk_below (g := gb530) (o := .cells #[.int .i64 t527, .int .i64 t528] 25 (0, 0)) (by (repeat refine dw ?_); refine blk_put (cs := #[.int .i64 t527, .int .i64 0]) ?_ 1 _ rfl; (repeat refine dw ?_); refine blk_put (cs := #[.int .i64 0, .int .i64 0]) ?_ 0 _ rfl; (repeat refine dw ?_); exact BK530.out) hb); have n5_ := bsq w hb; clear HO_5; clear HO_8; clear HO_9; clear BK526; clear BK530; clear HB; have HO_5 := n0_; have HO_8 := n1_; have HO_9 := n2_; have BK526 := n3_; have BK530 := n4_; have HB := n5_; clear n0_ n1_ n2_ n3_ n4_ n5_; (try clear hb)) | ((with_reducible refine gate_dst (N := 23) rfl ?_); (try (refine gate_guard (by rfl) ?_; dsimp only)); refine bxe (N := 23) (cs := #[.int .i64 0, .int .i64 0]) (t := 25) ?_; intro gb534 hg w157 hbox hb; have BK534 := Sd.mk hbox; have GW534 := bge w hg; have GE534 := bge w hg; have NB526_534 := bnl BK526 hg; have NB534_526 := bng BK526 hg; have NB530_534 := bnl BK530 hg; have NB534_530 := bng BK530 hg; replace HO_5 := brb HO_5 hb; replace HO_8 := brb HO_8 hb; replace HO_9 := brb HO_9 hb; replace BK526 := bkb BK526 hb; replace BK530 := bkb BK530 hb; replace HB := bsq w hb; clear hb hbox hg; have hnb158 := NB534_526.out; have hnc158 := NB526_534.out; have hnb159 := NB534_530.out; have hnc159 := NB530_534.out; have hcz160_0 := bz0 BK534; have hcz160_1 := bz1 BK534; have hfz160_0 := blk_frozen BK534.out 0; have hfz160_1 := blk_frozen BK534.out 1; have hcz161_0 := bz0 BK526; have hcz161_1 := bz1 BK526; have hfz161_0 := blk_frozen BK526.out 0; have hfz161_1 := blk_frozen BK526.out 1; have hcz162_0 := bz0 BK530; have hcz162_1 := bz1 BK530; have hfz162_0 := blk_frozen BK530.out 0; have hfz162_1 := blk_frozen BK530.out 1) | (go_at_call 9; (with_reducible refine (l10_live.calls  t535 _ A147.out).mono ?_); rintro e w163 ⟨rfl, hb⟩; have n0_ := Sd.mk (Kd.R_below (by (repeat refine dR ?_); exact (Kd.R_mono (Kd.R_far (p := ⟨gb534, 1, none⟩) (Kd.R_far (p := ⟨gb534, 0, none⟩) (Kd.R_types HO_5.out BK534.out (by decide)) (fun _ hk => hk.2) (.int .i64 t531)) (fun _ hk => hk.2) (.int .i64 t532)) (fun _ h_ => h_.1))) hb); have n1_ := Sd.mk (Kd.R_below (by (repeat refine dR ?_); exact (Kd.R_mono (Kd.R_far (p := ⟨gb534, 1, none⟩) (Kd.R_far (p := ⟨gb534, 0, none⟩) (Kd.R_types HO_8.out BK534.out (by decide)) (fun _ hk => hk.2) (.int .i64 t531)) (fun _ hk => hk.2) (.int .i64 t532)) (fun _ h_ => h_.1))) hb); have n2_ := Sd.mk (Kd.R_below (by (repeat refine dR ?_); exact (Kd.R_mono (Kd.R_far (p := ⟨gb534, 1, none⟩) (Kd.R_far (p := ⟨gb534, 0, none⟩) (Kd.R_types HO_9.out BK534.out (by decide)) (fun _ hk => hk.2) (.int .i64 t531)) (fun _ hk => hk.2) (.int .i64 t532)) (fun _ h_ => h_.1))) hb); have n3_ := Sd.mk (blk_below (g := gb526) (o := .cells #[.int .i64 t523, .int .i64 t524] 25 (0, 0)) (by (repeat refine dw ?_); refine blk_far ?_ NB526_534.out _; (repeat refine dw ?_); refine blk_far ?_ NB526_534.out _; (repeat refine dw ?_); exact BK526.out) hb); have n4_ := Sd.mk (blk_below (g := gb530) (o := .cells #[.int .i64 t527, .int .i64 t528] 25 (0, 0)) (by (repeat refine dw ?_); refine blk_far ?_ NB530_534.out _; (repeat refine dw ?_); refine blk_far ?_ NB530_534.out _; (repeat refine dw ?_); exact BK530.out) hb); have n5_ := Sd.mk (blk_below (g := gb534) (o := .cells #[.int .i64 t531, .int .i64 t532] 25 (0, 0)) (by (repeat refine dw ?_); refine blk_put (cs := #[.int .i64 t531, .int .i64 0]) ?_ 1 _ rfl; (repeat refine dw ?_); refine blk_put (cs := #[.int .i64 0, .int .i64 0]) ?_ 0 _ rfl; (repeat refine dw ?_); exact BK534.out) hb); have n6_ := bsq w hb; clear HO_5; clear HO_8; clear HO_9; clear BK526; clear BK530; clear BK534; clear HB; have HO_5 := n0_; have HO_8 := n1_; have HO_9 := n2_; have BK526 := n3_; have BK530 := n4_; have BK534 := n5_; have HB := n6_; clear n0_ n1_ n2_ n3_ n4_ n5_ n6_; (try clear hb)))
                 go_ret
                 exact ⟨by first | rfl | (simp [errW_none, errW_some] <;> rfl) | (simp only [← hji144]; first | rfl | (simp [errW_none, errW_some] <;> rfl)) | (simp [*, errW_none, errW_some] <;> rfl), bbl⟩
                ·rw [if_neg c146] at H; cases H
               ·rw [if_neg c145] at H; cases H
     ·rw [if_neg c9] at H
      exact absurd H (by simp)
    ·rw [if_neg c8] at H
     exact absurd H (by simp)
theorem op2_add : tab2.lookup ⟨#[43]⟩ = some (vNumbers vAdd) := rfl
theorem op2_div : tab2.lookup ⟨#[47]⟩ = some (vNumbers vDiv) := rfl
theorem op2_lt : tab2.lookup ⟨#[60]⟩ = some (vOrder false (fun m n => decide (m < n))) := rfl
/-- What an operation of two values comes to. -/
def vTwo (F : V → V → V) (a b : V) : V := if a.1 = 2 ∨ b.1 = 2 then (2, 0) else F a b
theorem do_2 {op : ByteArray} {F : V → V → V} (ht : tab2.lookup op = some F) {a b : V} (ha : isV a) (hb : isV b) : v_Do.f op [⟨a.1, a.2⟩, ⟨b.1, b.2⟩] = some ((vTwo F a b).1, (vTwo F a b).2, 0) := by
  have e : vDo op [a, b] = (vTwo F a b, 0) := by
    unfold vDo vTwo
    have hn : ([a, b].any fun x => !decide (isV x)) = false := by simp [ha, hb]
    rw [hn]
    simp only [Bool.false_eq_true, if_false, ht]
    split <;> rfl
  unfold v_Do.f
  show some ((vDo op [a, b]).1.1, (vDo op [a, b]).1.2, (vDo op [a, b]).2) = _
  rw [e]
abbrev sb (l : List UInt8) : ByteArray := ⟨l.toArray⟩
theorem sb_toList (l : List UInt8) : (sb l).toList = l := by rw [Lib.toList_data]
theorem eq_sb (s : ByteArray) : s = sb s.toList := by
  apply ByteArray.ext
  show s.data = s.toList.toArray
  rw [Lib.toList_data]
theorem rnum_is (n : Int) : r8_Num.f n = some (vNum n) := by
  unfold r8_Num.f vNum r8_Plus.f r8_Minus.f
  split
  · rfl
  · split <;> rfl
theorem ris_is (a b : Int) : r8_Is.f a b = some (decide (isV (a, b))) := by
  unfold r8_Is.f
  by_cases hv : isV (a, b)
  · rw [decide_eq_true hv]
    rcases hv with ⟨h, h1, h2⟩ | ⟨h, h1⟩
    · have h' : a = 1 := h
      have h1' : -1000000000000000 ≤ b := h1
      have h2' : b ≤ 1000000000000000 := h2
      rw [if_pos h', if_pos h1', decide_eq_true h2']
    · have h' : a = 2 ∨ a = 3 ∨ a = 4 ∨ a = 5 := h
      have h1' : b = 0 := h1
      rw [if_neg (by omega), if_pos (by omega), if_pos (by omega), h1']; rfl
  · rw [decide_eq_false hv]
    by_cases h1 : a = 1
    · rw [if_pos h1]
      by_cases h2 : b ≥ -1000000000000000
      · rw [if_pos h2]
        have h3 : ¬ b ≤ 1000000000000000 := fun h3 => hv (.inl ⟨h1, h2, h3⟩)
        rw [decide_eq_false h3]
      · rw [if_neg h2]
    · rw [if_neg h1]
      by_cases h2 : a ≥ 2
      · rw [if_pos h2]
        by_cases h3 : a ≤ 5
        · rw [if_pos h3]
          have h4 : ¬ b = 0 := fun h4 => hv (.inr ⟨by show a = 2 ∨ a = 3 ∨ a = 4 ∨ a = 5; omega, h4⟩)
          congr 1
          exact beq_false_of_ne h4
        · rw [if_neg h3]
      · rw [if_neg h2]
theorem badV_is (x : S25) : badV x = !decide (isV (x.f0, x.f1)) := rfl
theorem rd_at {xs : List S25} {i : Nat} (h : i < xs.length) : rd_T25 xs (i : Int) = xs[i] := by
  unfold rd_T25
  rw [Int.toNat_natCast, List.getD_eq_getElem?_getD, List.getElem?_eq_getElem h]; rfl
theorem check_loop (l : List S25) (hm : l.length ≤ 4611686018427387904) : ∀ (d i : Nat), i + d = l.length → Ev (fun k => r8_Check.l0 k l (i : Int)) (if (l.drop i).any badV then 80 else 0)
  | 0, i, h => by
    have e : l.drop i = [] := List.drop_of_length_le (by omega)
    rw [e]
    refine ⟨1, fun k hk => ?_⟩
    obtain ⟨k, rfl⟩ : ∃ n, k = n + 1 := ⟨k - 1, by omega⟩
    simp only [r8_Check.l0]
    rw [if_neg (by omega)]
    rfl
  | d + 1, i, h => by
    have hi : i < l.length := by omega
    have e4 : wrap64 ((i : Int) + 1) = ((i + 1 : Nat) : Int) := by rw [wrap_id (by omega) (by omega)]; omega
    have he : l.drop i = l[i] :: l.drop (i + 1) := List.drop_eq_getElem_cons hi
    have ih := check_loop l hm d (i + 1) (by omega)
    rw [he, List.any_cons, badV_is]
    by_cases hv : isV (l[i].f0, l[i].f1)
    · rw [decide_eq_true hv]
      refine Ev.step (fun k => ?_) ih
      simp only [r8_Check.l0]
      rw [if_pos (by omega), if_pos (by omega), rd_at hi, ris_is, decide_eq_true hv]
      simp only [Option.bind_some, if_true]
      rw [e4]
    · rw [decide_eq_false hv]
      refine ⟨1, fun k hk => ?_⟩
      obtain ⟨k, rfl⟩ : ∃ n, k = n + 1 := ⟨k - 1, by omega⟩
      simp only [r8_Check.l0]
      rw [if_pos (by omega), if_pos (by omega), rd_at hi, ris_is, decide_eq_false hv]
      simp
theorem check_ev (l : List S25) (hm : l.length ≤ 4611686018427387904) : Ev (fun k => r8_Check.f k l) (if l.any badV then 80 else 0) := by
  have h := check_loop l hm l.length 0 (by omega)
  rw [List.drop_zero] at h
  exact h
theorem one_step' {α : Type} {g : Nat → Option α} {r : α} (h : ∀ k, g (k + 1) = some r) : Ev g r := ⟨1, fun k hk => by
  obtain ⟨k, rfl⟩ : ∃ m, k = m + 1 := ⟨k - 1, by omega⟩
  exact h k⟩
theorem const_ev {α : Type} {g : Nat → Option α} {r : α} (h : ∀ k, g k = some r) : Ev g r := ⟨0, fun k _ => h k⟩
/-- The kinds of a value. -/
theorem isV_cases {a : V} (h : isV a) : (a.1 = 1 ∧ -1000000000000000 ≤ a.2 ∧ a.2 ≤ 1000000000000000) ∨ a = (2, 0) ∨ a = (3, 0) ∨ a = (4, 0) ∨ a = (5, 0) := by
  rcases h with h | ⟨h, h0⟩
  · exact .inl h
  · right
    obtain ⟨k, n⟩ := a
    have h0' : n = 0 := h0
    have h' : k = 2 ∨ k = 3 ∨ k = 4 ∨ k = 5 := h
    subst h0'
    rcases h' with rfl | rfl | rfl | rfl <;> simp
theorem rsign_ev {a : V} (h : isV a) : Ev (fun k => r8_sign.f k a.1 a.2) (vSign (vRank a)) := by
  rcases isV_cases h with ⟨h1, h2, h3⟩ | rfl | rfl | rfl | rfl
  · rw [rank_num h1]
    refine one_step' fun k => ?_
    unfold r8_sign.f vSign
    rw [if_neg (by omega)]
    simp only [r8_sign.j0]
    rcases Int.lt_trichotomy a.2 0 with hn | hn | hn
    · rw [decide_eq_false (by omega), if_neg (by decide), if_neg (by omega), if_pos hn, if_pos hn]
    · rw [decide_eq_false (by omega), if_neg (by decide), if_neg (by omega), if_neg (by omega), if_neg (by omega), if_pos hn]
    · rw [decide_eq_true hn, if_pos rfl, if_neg (by omega), if_neg (by omega)]
  all_goals exact one_step' fun k => rfl
/-- A value, turned round. -/
def vTurn (a : V) : V := if a.1 = 4 then (5, 0) else if a.1 = 5 then (4, 0) else (a.1, -a.2)
theorem rturned_is {a : V} (h : isV a) : r8_turned.f a.1 a.2 = some (vTurn a) := by
  have hn := isV_n h
  unfold r8_turned.f vTurn
  rw [wrap_id (by omega) (by omega)]
  split
  · rfl
  · split <;> rfl
theorem turn_num {a : V} (h : isV a) (h2 : a.1 ≠ 2) (h3 : a.1 ≠ 3) : vTurn a = vNum (-vRank a) := by
  rcases isV_cases h with ⟨h1, hl, hu⟩ | rfl | rfl | rfl | rfl
  · rw [rank_num h1]
    unfold vTurn vNum
    rw [if_neg (by omega), if_neg (by omega), if_neg (by omega), if_neg (by omega), h1]
  · exact absurd rfl h2
  · exact absurd rfl h3
  · rfl
  · rfl
theorem pair_beq (a b : V) : (a.1 == b.1 && (a.2 == b.2)) = decide (a = b) := by
  rw [Bool.eq_iff_iff, Bool.and_eq_true, beq_iff_eq, beq_iff_eq, decide_eq_true_iff]
  exact ⟨fun h => Prod.ext h.1 h.2, fun h => by rw [h]; exact ⟨rfl, rfl⟩⟩
theorem radd_ev {a b : V} (ha : isV a) (hb : isV b) : Ev (fun k => r8_add.f k a.1 a.2 b.1 b.2) (vAdd a b) := by
  have na := isV_n ha
  have nb := isV_n hb
  refine one_step' fun k => ?_
  unfold r8_add.f r8_num.f
  simp only [Option.bind_some, r8_add.j0, r8_num.f, r8_NaN.f, rnum_is]
  rw [wrap_id (by omega) (by omega)]
  unfold vAdd
  by_cases h1 : a.1 = 1
  · by_cases g1 : b.1 = 1
    · simp [h1, g1]
    · simp [h1, g1]
  · by_cases g1 : b.1 = 1
    · simp [h1, g1]
    · rw [pair_beq]
      by_cases he : a = b
      · simp [h1, g1, he]
      · simp [h1, g1, he]
theorem rbeyond_is (s : Int) : r8_beyond.f s = some (vInf s) := by
  unfold r8_beyond.f vInf r8_Plus.f r8_Minus.f r8_NaN.f
  rcases Int.lt_trichotomy s 0 with h | h | h
  · rw [if_neg (by omega), if_pos h, if_neg (by omega), if_pos h]; rfl
  · rw [if_neg (by omega), if_neg (by omega), if_pos h]; rfl
  · rw [if_pos h, if_neg (by omega), if_neg (by omega)]; rfl
theorem rover_ev {a b : V} (ha : isV a) (hb : isV b) (a2 : a.1 ≠ 2) (a3 : a.1 ≠ 3) (b2 : b.1 ≠ 2) (b3 : b.1 ≠ 3) : Ev (fun k => r8_over.f k a.1 a.2 b.1 b.2) (vDiv a b) := by
  have na := isV_n ha
  have nb := isV_n hb
  have hnum : ∀ x y : Int, r8_num.f x y = some (x == 1) := fun _ _ => rfl
  have e3 : wrap64 ((a.2 * 1000).tdiv b.2) = (a.2 * 1000).tdiv b.2 := by
    have h := Int.natAbs_tdiv_le_natAbs (a.2 * 1000) b.2
    exact wrap_id (by omega) (by omega)
  have e2 : wrap64 (a.2 * 1000) = a.2 * 1000 := wrap_id (by omega) (by omega)
  unfold vDiv
  by_cases h1 : a.1 = 1
  · by_cases g1 : b.1 = 1
    · rw [if_pos g1, if_pos h1]
      by_cases h0 : b.2 = 0
      · rw [if_pos h0]
        have hs := rsign_ev ha
        rw [rank_num h1] at hs
        have hinf : vInf (vSign a.2) = vInf a.2 := by
          rcases Int.lt_trichotomy a.2 0 with h | h | h
          · have e : vSign a.2 = -1 := by unfold vSign; rw [if_pos h]
            rw [e]; unfold vInf; rw [if_neg (by decide), if_pos (by decide), if_neg (by omega), if_pos h]
          · rw [h]; rfl
          · have e : vSign a.2 = 1 := by unfold vSign; rw [if_neg (by omega), if_neg (by omega)]
            rw [e]; unfold vInf; rw [if_neg (by decide), if_neg (by decide), if_neg (by omega), if_neg (by omega)]
        refine Ev.congr (f := fun k => r8_over.j0 k true a.1 a.2 b.1 b.2) (fun k => ?_) ?_
        · unfold r8_over.f
          simp only [hnum, Option.bind_some, h1, g1, h0]
          rfl
        · refine Ev.step (f := fun k => (r8_sign.f k a.1 a.2).bind fun t310 => ((r8_beyond.f t310).bind fun bt311 => (some (bt311.1, bt311.2)))) (fun k => ?_) ?_
          · simp only [r8_over.j0, if_true]
          · refine Ev.bind (f := fun k t310 => ((r8_beyond.f t310).bind fun bt311 => (some (bt311.1, bt311.2)))) hs ⟨0, fun k _ => ?_⟩
            show (r8_beyond.f (vSign a.2)).bind _ = _
            rw [rbeyond_is, hinf]; rfl
      · rw [if_neg h0]
        have q1 : Ev (fun k => r8_over.j1 k true a.1 a.2 b.1 b.2) (vNum ((a.2 * 1000).tdiv b.2)) := by
          refine one_step' fun k => ?_
          simp only [r8_over.j1, if_true]
          rw [if_neg h0, e2, e3, rnum_is]; rfl
        refine Ev.congr (f := fun k => r8_over.j0 k false a.1 a.2 b.1 b.2) (fun k => ?_) (Ev.step (fun k => ?_) q1)
        · unfold r8_over.f
          rw [beq_false_of_ne h0]
          simp only [hnum, Option.bind_some, h1, g1]
          rfl
        · simp only [r8_over.j0, hnum, Option.bind_some, h1, g1]
          rfl
    · rw [if_neg g1, if_pos h1]
      have g1' : (b.1 == 1) = false := beq_false_of_ne g1
      have q1 : Ev (fun k => r8_over.j1 k false a.1 a.2 b.1 b.2) (vNum 0) := by
        refine one_step' fun k => ?_
        simp only [r8_over.j1, hnum, Option.bind_some, h1, g1', rnum_is]
        rfl
      refine Ev.congr (f := fun k => r8_over.j0 k false a.1 a.2 b.1 b.2) (fun k => ?_) (Ev.step (fun k => ?_) q1)
      · unfold r8_over.f
        simp only [hnum, Option.bind_some, h1, g1']
        rfl
      · simp only [r8_over.j0, hnum, Option.bind_some, h1, g1']
        rfl
  · have h1' : (a.1 == 1) = false := beq_false_of_ne h1
    have start : ∀ {r : Int × Int}, Ev (fun k => r8_over.j1 k false a.1 a.2 b.1 b.2) r → Ev (fun k => r8_over.f k a.1 a.2 b.1 b.2) r := fun q1 => by
      refine Ev.congr (f := fun k => r8_over.j0 k false a.1 a.2 b.1 b.2) (fun k => ?_) (Ev.step (fun k => ?_) q1)
      · unfold r8_over.f
        simp only [hnum, Option.bind_some, h1']
        rfl
      · simp only [r8_over.j0, hnum, Option.bind_some, h1']
        rfl
    refine start ?_
    by_cases g1 : b.1 = 1
    · rw [if_pos g1, if_neg h1]
      refine Ev.step (f := fun k => r8_over.j2 k (decide (b.2 < 0)) a.1 a.2 b.1 b.2) (fun k => ?_) ?_
      · simp only [r8_over.j1, hnum, Option.bind_some, h1', g1]
        rfl
      · by_cases hn : b.2 < 0
        · rw [if_pos hn, decide_eq_true hn]
          refine one_step' fun k => ?_
          simp only [r8_over.j2, if_true]
          rw [rturned_is ha, turn_num ha a2 a3]; rfl
        · rw [if_neg hn, decide_eq_false hn]
          refine one_step' fun k => ?_
          simp only [r8_over.j2, hnum, Option.bind_some, g1]
          rfl
    · have g1' : (b.1 == 1) = false := beq_false_of_ne g1
      rw [if_neg g1, if_neg h1]
      refine Ev.step (f := fun k => r8_over.j2 k false a.1 a.2 b.1 b.2) (fun k => ?_) ?_
      · simp only [r8_over.j1, hnum, Option.bind_some, h1', g1']
        rfl
      · refine one_step' fun k => ?_
        simp only [r8_over.j2, hnum, Option.bind_some, g1']
        rfl
theorem sb_inj {a b : ByteArray} : a.toList = b.toList ↔ a = b := ⟨fun h => by rw [eq_sb a, eq_sb b, h], fun h => by rw [h]⟩
theorem ba_ne {a b : ByteArray} (h : a ≠ b) : (a == b) = false := by
  rcases a with ⟨a⟩
  rcases b with ⟨b⟩
  have h' : a ≠ b := fun e => h (by rw [e])
  show (a == b) = false
  exact beq_false_of_ne h'
/-- An operation of two values, with whether there is one. -/
def two3 (op : ByteArray) (a b : V) : Int × Int × Bool := match tab2.lookup op with | some F => ((vTwo F a b).1, (vTwo F a b).2, true) | none => (0, 0, false)
def ops12 : List ByteArray := [sb [43], sb [45], sb [42], sb [47], sb [61, 61], sb [33, 61], sb [60], sb [60, 61], sb [62], sb [62, 61], sb [38, 38], sb [124, 124]]
theorem two_at {op : ByteArray} {F : V → V → V} (h : tab2.lookup op = some F) (a b : V) : two3 op a b = ((vTwo F a b).1, (vTwo F a b).2, true) := by unfold two3; rw [h]
section
variable {a b : V} (ha : isV a) (hb : isV b)
theorem keyl (l : List UInt8) : (sb l).toList = l := sb_toList l
theorem rdOf_at {i : Nat} (h : i < ops12.length) : rdOf ByteArray.empty ops12 (i : Int) = ops12[i] := by
  unfold rdOf
  rw [Int.toNat_natCast, List.getD_eq_getElem?_getD, List.getElem?_eq_getElem h]; rfl
include ha hb
theorem two_add (a2 : a.1 ≠ 2) (b2 : b.1 ≠ 2) : Ev (fun k => q8_two.j2 k (sb [43]) (decide (a.1 = 3 ∨ b.1 = 3)) a.1 a.2 b.1 b.2) (((vNumbers vAdd) a b).1, ((vNumbers vAdd) a b).2, true) := by
  unfold vNumbers
  by_cases h : a.1 = 3 ∨ b.1 = 3
  · rw [decide_eq_true h, if_pos h]
    refine one_step' fun k => ?_
    simp only [q8_two.j2]
    rw [keyl, if_neg (by decide), if_neg (by decide), if_neg (by decide), if_neg (by decide), if_neg (by decide), if_neg (by decide), if_neg (by decide), if_neg (by decide), if_pos trivial]; rfl
  · rw [decide_eq_false h, if_neg h]
    have q := radd_ev ha hb
    refine Ev.step (f := fun k => (r8_add.f k a.1 a.2 b.1 b.2).bind fun bt => (some (bt.1, bt.2, true))) (fun k => ?_) (Ev.bind (f := fun k bt => (some (bt.1, bt.2, true))) q ⟨0, fun k _ => rfl⟩)
    simp only [q8_two.j2]
    rw [keyl, if_neg (by decide), if_neg (by decide), if_neg (by decide), if_neg (by decide), if_neg (by decide), if_neg (by decide), if_neg (by decide), if_neg (by decide), if_neg (by decide), if_pos rfl]
theorem two_div (a2 : a.1 ≠ 2) (b2 : b.1 ≠ 2) : Ev (fun k => q8_two.j2 k (sb [47]) (decide (a.1 = 3 ∨ b.1 = 3)) a.1 a.2 b.1 b.2) (((vNumbers vDiv) a b).1, ((vNumbers vDiv) a b).2, true) := by
  unfold vNumbers
  by_cases h : a.1 = 3 ∨ b.1 = 3
  · rw [decide_eq_true h, if_pos h]
    refine one_step' fun k => ?_
    simp only [q8_two.j2]
    rw [keyl, if_neg (by decide), if_neg (by decide), if_neg (by decide), if_neg (by decide), if_neg (by decide), if_neg (by decide), if_neg (by decide), if_neg (by decide), if_pos trivial]; rfl
  · rw [decide_eq_false h, if_neg h]
    have q := rover_ev ha hb a2 (fun h' => h (.inl h')) b2 (fun h' => h (.inr h'))
    refine Ev.step (f := fun k => (r8_over.f k a.1 a.2 b.1 b.2).bind fun bt => (some (bt.1, bt.2, true))) (fun k => ?_) (Ev.bind (f := fun k bt => (some (bt.1, bt.2, true))) q ⟨0, fun k _ => rfl⟩)
    simp only [q8_two.j2]
    rw [keyl, if_neg (by decide), if_neg (by decide), if_neg (by decide), if_neg (by decide), if_neg (by decide), if_neg (by decide), if_neg (by decide), if_neg (by decide), if_neg (by decide), if_neg (by decide), if_neg (by decide), if_neg (by decide)]
omit ha hb in
theorem two_j1 (op : ByteArray) {F : V → V → V} (ht : tab2.lookup op = some F) (h : a.1 ≠ 2 → b.1 ≠ 2 → Ev (fun k => q8_two.j2 k op (decide (a.1 = 3 ∨ b.1 = 3)) a.1 a.2 b.1 b.2) ((F a b).1, (F a b).2, true)) : Ev (fun k => q8_two.j1 k op (decide (a.1 = 2 ∨ b.1 = 2)) a.1 a.2 b.1 b.2) (two3 op a b) := by
  rw [two_at ht]
  unfold vTwo
  by_cases hn : a.1 = 2 ∨ b.1 = 2
  · rw [decide_eq_true hn, if_pos hn]
    exact one_step' fun k => by simp only [q8_two.j1, if_true]; rfl
  · rw [decide_eq_false hn, if_neg hn]
    refine Ev.step (fun k => ?_) (h (fun h' => hn (.inl h')) (fun h' => hn (.inr h')))
    simp only [q8_two.j1]
    rw [if_neg (by decide)]
    by_cases h3 : a.1 = 3
    · rw [if_pos h3, decide_eq_true (show a.1 = 3 ∨ b.1 = 3 from .inl h3)]
    · rw [if_neg h3]
      by_cases g3 : b.1 = 3
      · rw [g3, decide_eq_true (show a.1 = 3 ∨ (3 : Int) = 3 from .inr rfl)]; rfl
      · rw [beq_false_of_ne g3, decide_eq_false (fun h' => h'.elim h3 g3)]
theorem two_known (op : ByteArray) (hk : op = sb [43] ∨ op = sb [47]) : Ev (fun k => q8_two.j1 k op (decide (a.1 = 2 ∨ b.1 = 2)) a.1 a.2 b.1 b.2) (two3 op a b) := by
  rcases hk with rfl | rfl
  · exact two_j1 _ op2_add (two_add ha hb)
  · exact two_j1 _ op2_div (two_div ha hb)
omit ha hb in
theorem two_unknown (op : ByteArray) (hk : op ∉ ops12) : tab2.lookup op = none := by
  simp only [ops12, List.mem_cons, List.mem_nil_iff, or_false, not_or] at hk
  obtain ⟨c0, c1, c2, c3, c4, c5, c6, c7, c8, c9, c10, c11⟩ := hk
  unfold tab2
  simp only [List.lookup, ba_ne c0, ba_ne c1, ba_ne c2, ba_ne c3, ba_ne c4, ba_ne c5, ba_ne c6, ba_ne c7, ba_ne c8, ba_ne c9, ba_ne c10, ba_ne c11]
theorem two_loop (op : ByteArray) (hop : op = sb [43] ∨ op = sb [47]) : ∀ (d i : Nat) (kn : Bool), i + d = 12 → (kn = true → op ∈ ops12) → (kn = false → ∀ x ∈ ops12.take i, x ≠ op) → Ev (fun k => q8_two.l0 k op kn ops12 (i : Int) a.1 a.2 b.1 b.2) (two3 op a b)
  | 0, i, kn, hd, hk, hn => by
    have hi : i = 12 := by omega
    subst hi
    cases kn with
    | true =>
      refine Ev.step (fun k => ?_) (two_known ha hb op hop)
      simp only [q8_two.l0]
      rw [if_neg (by decide), if_pos trivial]
      by_cases h2 : a.1 = 2
      · rw [if_pos h2, decide_eq_true (show a.1 = 2 ∨ b.1 = 2 from .inl h2)]
      · rw [if_neg h2]
        by_cases g2 : b.1 = 2
        · rw [g2, decide_eq_true (show a.1 = 2 ∨ (2 : Int) = 2 from .inr rfl)]; rfl
        · rw [beq_false_of_ne g2, decide_eq_false (fun h' => h'.elim h2 g2)]
    | false =>
      have hne : op ∉ ops12 := fun hm => hn rfl op (by rw [List.take_of_length_le (by decide)]; exact hm) rfl
      have e : two3 op a b = (0, 0, false) := by unfold two3; rw [two_unknown op hne]
      rw [e]
      refine one_step' fun k => ?_
      simp only [q8_two.l0]
      rw [if_neg (by decide), if_neg (by decide)]
  | d + 1, i, kn, hd, hk, hn => by
    have hl : ops12.length = 12 := rfl
    have hi : i < ops12.length := by omega
    have e1 : wrap64 ((i : Int) + 1) = ((i + 1 : Nat) : Int) := by rw [wrap_id (by omega) (by omega)]; omega
    cases kn with
    | true =>
      refine Ev.step (fun k => ?_) (two_loop op hop d (i + 1) true (by omega) hk (fun h => by cases h))
      simp only [q8_two.l0, if_true]
      rw [if_pos (by omega), e1]
    | false =>
      by_cases he : ops12[i] = op
      · refine Ev.step (fun k => ?_) (two_loop op hop d (i + 1) true (by omega) (fun _ => by rw [← he]; exact List.getElem_mem hi) (fun h => by cases h))
        simp only [q8_two.l0]
        rw [if_pos (by omega), if_neg (by decide), if_pos (by omega), rdOf_at hi, e1, he, beq_self_eq_true]
      · refine Ev.step (fun k => ?_) (two_loop op hop d (i + 1) false (by omega) (fun h => by cases h) (fun _ x hx => ?_))
        · simp only [q8_two.l0]
          rw [if_pos (by omega), if_neg (by decide), if_pos (by omega), rdOf_at hi, e1, beq_false_of_ne (fun h => he (sb_inj.1 h))]
        · rw [List.take_succ_eq_append_getElem hi] at hx
          rcases List.mem_append.1 hx with hx | hx
          · exact hn rfl x hx
          · obtain rfl := List.mem_singleton.1 hx
            exact he
theorem two_ev (op : ByteArray) (hop : op = sb [43] ∨ op = sb [47]) : Ev (fun k => q8_two.f k op a.1 a.2 b.1 b.2) (two3 op a b) :=
  two_loop ha hb op hop 12 0 false (by omega) (fun h => by cases h) (fun _ x hx => by simp at hx)
end
theorem rdo_ev (op : ByteArray) (hop : op = sb [43] ∨ op = sb [47]) (x y : S25) : Ev (fun k => q8_Do.f k op [x, y]) ((vDo op ([x, y].map sv)).1.1, (vDo op ([x, y].map sv)).1.2, (vDo op ([x, y].map sv)).2) := by
  unfold q8_Do.f
  refine Ev.bind (f := fun k t388 => (if t388 = 0 then (if (([x, y] : List S25).length : Int) = 1 then none else (q8_Do.j0 k op [x, y] false 0 0)) else (some (0, 0, 80)))) (check_ev [x, y] (by simp)) ?_
  by_cases hb : [x, y].any badV = true
  · have e : vDo op ([x, y].map sv) = ((0, 0), 80) := by unfold vDo; rw [any_sv, if_pos hb]
    rw [e, if_pos hb]
    exact const_ev fun k => by rw [if_neg (by decide)]
  · rw [if_neg hb]
    have hv : isV (sv x) ∧ isV (sv y) := by simpa [badV] using hb
    refine Ev.congr (f := fun k => q8_Do.j0 k op [x, y] false 0 0) (fun k => by rw [if_pos rfl, if_neg (by simp)]) ?_
    refine Ev.step (f := fun k => ((q8_two.f k op (sv x).1 (sv x).2 (sv y).1 (sv y).2).bind fun bt396 => (if bt396.2.2 = true then (some (bt396.1, bt396.2.1, 0)) else (some (0, 0, 2))))) (fun k => ?_) ?_
    · simp only [q8_Do.j0]
      rw [if_pos (by simp), if_pos (by simp), if_pos (by simp)]; rfl
    · refine Ev.bind (f := fun k bt396 => (if bt396.2.2 = true then (some ((bt396.1, bt396.2.1, 0) : Int × Int × Int)) else (some (0, 0, 2)))) (two_ev hv.1 hv.2 op hop) ⟨0, fun k _ => ?_⟩
      unfold two3 vDo
      rw [any_sv, if_neg hb]
      simp only [List.map]
      cases ht : tab2.lookup op with
      | none => rfl
      | some F =>
        unfold vTwo
        by_cases hn : (sv x).1 = 2 ∨ (sv y).1 = 2
        · simp [hn]
        · simp [hn]
theorem vTrue_truth (b : Bool) : vTrue (vTruth b) = b := by cases b <;> rfl
theorem lt_is {a b : V} (ha : isV a) (hb : isV b) (a2 : a.1 ≠ 2) (a3 : a.1 ≠ 3) (b2 : b.1 ≠ 2) (b3 : b.1 ≠ 3) : vTrue (do2 ⟨#[60]⟩ a b) = decide (vRank a < vRank b) := by
  have h := do_2 op2_lt ha hb
  have e : do2 ⟨#[60]⟩ a b = vOrder false (fun m n => decide (m < n)) a b := by
    have h2 : v_Do.f ⟨#[60]⟩ [⟨a.1, a.2⟩, ⟨b.1, b.2⟩] = some ((vDo ⟨#[60]⟩ [a, b]).1.1, (vDo ⟨#[60]⟩ [a, b]).1.2, (vDo ⟨#[60]⟩ [a, b]).2) := rfl
    rw [h2] at h
    injection h with h
    injection h with h3 h
    injection h with h4 h
    have h5 : (vDo ⟨#[60]⟩ [a, b]).1 = vTwo (vOrder false (fun m n => decide (m < n))) a b := Prod.ext h3 h4
    unfold do2
    rw [h5]; unfold vTwo; rw [if_neg (by omega)]
  rw [e]
  unfold vOrder
  rw [vTrue_truth, if_neg (by omega)]
/-- A point whose value is a number, and not a large one. -/
def goodP (x : Pt) : Prop := x.f1.f0 = 1 ∧ -1000000000 ≤ x.f1.f1 ∧ x.f1.f1 ≤ 1000000000
def sumP : List Pt → Int
  | [] => 0
  | x :: l => x.f1.f1 + sumP l
theorem good_val {x : Pt} (h : goodP x) : valP x = (1, x.f1.f1) := Prod.ext h.1 rfl
theorem isV1 {n : Int} (h0 : -1000000000000000 ≤ n) (h1 : n ≤ 1000000000000000) : isV ((1 : Int), n) := .inl ⟨rfl, h0, h1⟩
theorem plus_do {a b : Int} (a0 : -500000000000000 ≤ a) (a1 : a ≤ 500000000000000) (b0 : -500000000000000 ≤ b) (b1 : b ≤ 500000000000000) : vDo ⟨#[43]⟩ [(1, a), (1, b)] = ((1, a + b), 0) := by
  have hn : ([((1 : Int), a), ((1 : Int), b)].any fun x => !decide (isV x)) = false := by
    simp [isV1 (n := a) (by omega) (by omega), isV1 (n := b) (by omega) (by omega)]
  unfold vDo
  rw [hn, if_neg (by decide), op2_add]
  have e : vAdd ((1 : Int), a) ((1 : Int), b) = (1, a + b) := by
    show vNum (a + b) = _
    unfold vNum
    rw [if_neg (by omega), if_neg (by omega)]
  show (if (1 : Int) = 2 ∨ (1 : Int) = 2 then ((2 : Int), (0 : Int)) else (if (1 : Int) = 3 ∨ (1 : Int) = 3 then ((3 : Int), (0 : Int)) else vAdd (1, a) (1, b)), (0 : Int)) = _
  rw [e]; rfl
theorem plus_is {a b : Int} (a0 : -500000000000000 ≤ a) (a1 : a ≤ 500000000000000) (b0 : -500000000000000 ≤ b) (b1 : b ≤ 500000000000000) : do2 ⟨#[43]⟩ (1, a) (1, b) = (1, a + b) := by unfold do2; rw [plus_do a0 a1 b0 b1]
theorem sum_bound : ∀ (l : List Pt), (∀ x ∈ l, goodP x) → -1000000000 * (l.length : Int) ≤ sumP l ∧ sumP l ≤ 1000000000 * (l.length : Int)
  | [], _ => by simp [sumP]
  | x :: l, h => by
    have ih := sum_bound l (fun y hy => h y (List.mem_cons_of_mem _ hy))
    have hx := h x (List.mem_cons_self ..)
    have h2 := hx.2
    have e : sumP (x :: l) = x.f1.f1 + sumP l := rfl
    rw [e, List.length_cons]
    omega
theorem total_is : ∀ (l : List Pt) (s : Int), (∀ x ∈ l, goodP x) → l.length ≤ 121 → -1000000000 * (121 - (l.length : Int)) ≤ s → s ≤ 1000000000 * (121 - (l.length : Int)) → totalGo (1, s) l = (1, s + sumP l)
  | [], s, _, _, _, _ => by simp [totalGo, sumP]
  | x :: l, s, h, hl, h0, h1 => by
    have hx := h x (List.mem_cons_self ..)
    have := hx.2
    rw [List.length_cons] at hl h0 h1
    have e : totalGo (1, s) (x :: l) = totalGo (1, s + x.f1.f1) l := by
      show totalGo (do2 ⟨#[43]⟩ (1, s) (valP x)) l = _
      rw [good_val hx, plus_is (by omega) (by omega) (by omega) (by omega)]
    rw [e, total_is l _ (fun y hy => h y (List.mem_cons_of_mem _ hy)) (by omega) (by omega) (by omega)]
    show ((1 : Int), s + x.f1.f1 + sumP l) = (1, s + (x.f1.f1 + sumP l))
    rw [Int.add_assoc]
def mnGo (m : Int) (l : List Pt) : Int := l.foldl (fun m x => mn m x.f1.f1) m
theorem mn_assoc (a b c : Int) : mn (mn a b) c = mn a (mn b c) := by unfold mn; repeat' split <;> try omega
theorem mn_self (a : Int) : mn a a = a := by unfold mn; split <;> omega
theorem mnGo_mn (a : Int) : ∀ (l : List Pt) (b : Int), mnGo (mn a b) l = mn a (mnGo b l)
  | [], b => rfl
  | x :: l, b => by
    show mnGo (mn (mn a b) x.f1.f1) l = mn a (mnGo (mn b x.f1.f1) l)
    rw [mn_assoc, mnGo_mn a l]
theorem best_is : ∀ (l : List Pt) (m : Int), (∀ x ∈ l, goodP x) → -1000000000 ≤ m → m ≤ 1000000000 → bestGo ⟨#[60]⟩ (1, m) l = (1, mnGo m l)
  | [], m, _, _, _ => rfl
  | x :: l, m, h, h0, h1 => by
    have hx := h x (List.mem_cons_self ..)
    have hb := hx.2
    have e : bestGo ⟨#[60]⟩ (1, m) (x :: l) = bestGo ⟨#[60]⟩ (1, mn m x.f1.f1) l := by
      show bestGo ⟨#[60]⟩ (if vTrue (do2 ⟨#[60]⟩ (valP x) (1, m)) = true then valP x else (1, m)) l = _
      rw [good_val hx, lt_is (a := ((1 : Int), x.f1.f1)) (b := ((1 : Int), m)) (isV1 (by omega) (by omega)) (isV1 (by omega) (by omega)) (by show (1 : Int) ≠ 2; decide) (by show (1 : Int) ≠ 3; decide) (by show (1 : Int) ≠ 2; decide) (by show (1 : Int) ≠ 3; decide)]
      have r1 : vRank ((1 : Int), x.f1.f1) = x.f1.f1 := rfl
      have r2 : vRank ((1 : Int), m) = m := rfl
      rw [r1, r2]
      unfold mn
      by_cases hc : x.f1.f1 < m
      · rw [decide_eq_true hc, if_pos rfl, if_pos hc]
      · rw [decide_eq_false hc, if_neg (by decide), if_neg hc]
    rw [e, best_is l _ (fun y hy => h y (List.mem_cons_of_mem _ hy)) (by unfold mn; split <;> omega) (by unfold mn; split <;> omega)]
    rfl
theorem good_bad {l : List Pt} (h : ∀ x ∈ l, goodP x) : l.any badP = false := by
  rw [List.any_eq_false]
  intro x hx
  have hg := h x hx
  have := hg.2
  unfold badP
  rw [good_val hg, decide_eq_true (isV1 (n := x.f1.f1) (by omega) (by omega))]
  decide
theorem good_odd {x : Pt} (h : goodP x) : oddP x = false := by
  unfold oddP
  rw [h.1]
  decide
theorem good_keep (s : Bool) {l : List Pt} (h : ∀ x ∈ l, goodP x) : keepP s l = l := by
  unfold keepP
  split
  · rfl
  · exact List.filter_eq_self.2 fun x hx => by rw [good_odd (h x hx)]; rfl
theorem good_odds {l : List Pt} (h : ∀ x ∈ l, goodP x) : l.any oddP = false := by
  rw [List.any_eq_false]
  intro x hx
  rw [good_odd (h x hx)]
  decide
abbrev bSum : ByteArray := ⟨#[115, 117, 109]⟩
abbrev bCount : ByteArray := ⟨#[99, 111, 117, 110, 116]⟩
abbrev bMin : ByteArray := ⟨#[109, 105, 110]⟩
theorem ok_sum : howOk bSum = true := by kernel_rfl
theorem ok_count : howOk bCount = true := by kernel_rfl
theorem ok_min : howOk bMin = true := by kernel_rfl
theorem tl_sum : bSum.toList = hSum := sb_toList hSum
theorem tl_count : bCount.toList = hCount := sb_toList hCount
theorem tl_min : bMin.toList = hMin := sb_toList hMin
theorem red_of (how : ByteArray) (hh : howOk how = true) (s : Bool) {l : List Pt} (h : ∀ x ∈ l, goodP x) (hl : l.length ≤ 120) : vReduce how s l = vRed how.toList l := by
  unfold vReduce
  rw [hh, if_pos rfl, if_neg (by omega), good_bad h, if_neg (by decide), good_keep s h]
theorem red_sum (s : Bool) {l : List Pt} (h : ∀ x ∈ l, goodP x) (hl : l.length ≤ 120) (hn : l ≠ []) : vReduce bSum s l = ((1, sumP l), 0) := by
  rw [red_of bSum ok_sum s h hl, tl_sum]
  cases l with
  | nil => exact absurd rfl hn
  | cons x l =>
    have hx := h x (List.mem_cons_self ..)
    have := hx.2
    rw [List.length_cons] at hl
    unfold vRed
    rw [if_neg (by decide)]
    show (if hSum = hLast then _ else _) = _
    rw [if_neg (by decide), good_odds h, if_neg (by decide), if_neg (by decide), if_neg (by decide), if_pos rfl, good_val hx, total_is l _ (fun y hy => h y (List.mem_cons_of_mem _ hy)) (by omega) (by omega) (by omega)]
    rfl
theorem red_count (s : Bool) {l : List Pt} (h : ∀ x ∈ l, goodP x) (hl : l.length ≤ 120) : vReduce bCount s l = ((1, 1000 * (l.length : Int)), 0) := by
  rw [red_of bCount ok_count s h hl, tl_count]
  unfold vRed
  rw [if_pos rfl]
  unfold vNum
  rw [if_neg (by omega), if_neg (by omega)]
theorem red_min (s : Bool) {x : Pt} {l : List Pt} (h : ∀ y ∈ x :: l, goodP y) (hl : (x :: l).length ≤ 120) : vReduce bMin s (x :: l) = ((1, mnGo x.f1.f1 l), 0) := by
  have hx := h x (List.mem_cons_self ..)
  have hb := hx.2
  rw [red_of bMin ok_min s h hl, tl_min]
  unfold vRed
  rw [if_neg (by decide)]
  show (if hMin = hLast then _ else _) = _
  rw [if_neg (by decide), good_odds h, if_neg (by decide), if_pos rfl, good_val hx, best_is (x :: l) _ h hb.1 hb.2]
  show ((1, mnGo (mn x.f1.f1 x.f1.f1) l), 0) = _
  rw [mn_self]
theorem sumP_append : ∀ (a b : List Pt), sumP (a ++ b) = sumP a + sumP b
  | [], b => by simp [sumP]
  | x :: a, b => by
    show x.f1.f1 + sumP (a ++ b) = x.f1.f1 + sumP a + sumP b
    rw [sumP_append a b, Int.add_assoc]
theorem mnGo_append (m : Int) (a b : List Pt) : mnGo m (a ++ b) = mnGo (mnGo m a) b := List.foldl_append ..
theorem sred_is (how : ByteArray) (s : Bool) (l : List Pt) (hl : l.length ≤ 120) {v : V} (h : vReduce how s l = (v, 0)) : s_Reduce.f how s l = some (v.1, v.2, 0) := by
  unfold s_Reduce.f
  rw [if_pos (by omega), h]
/-- One of the two sums. -/
theorem parts_round (how : ByteArray) {a b : List Pt} {n m q : Int} (ha : vReduce how true a = ((1, n), 0)) (hb : vReduce how true b = ((1, m), 0)) (hc : vReduce how false (a ++ b) = ((1, q), 0)) (hq : q = n + m) (la : a.length ≤ 60) (lb : b.length ≤ 60) (n0 : -500000000000000 ≤ n) (n1 : n ≤ 500000000000000) (m0 : -500000000000000 ≤ m) (m1 : m ≤ 500000000000000) {F : Nat → Option Bool} (hF : Ev F true) :
    Ev (fun k => ((s_Reduce.f how true a).bind fun bt498 => ((s_Reduce.f how true b).bind fun bt503 => ((s_Reduce.f how false (a ++ b)).bind fun bt508 => ((q8_Do.f k ⟨#[43]⟩ (([(⟨bt498.1, bt498.2.1⟩ : S25), (⟨bt503.1, bt503.2.1⟩ : S25)] : List (S25)))).bind fun bt516 => ((l10_num.f bt498.2.2).bind fun t520 => ((l10_num.f bt503.2.2).bind fun t521 => ((l10_num.f bt508.2.2).bind fun t522 => (if (wrap64 ((wrap64 (t520 + t521)) + t522)) = 0 then (if (!(bt516.1 == bt508.1) || (!(bt516.2.1 == bt508.2.1))) = true then (none) else F k) else (none)))))))))) true := by
  refine Ev.congr (f := fun k => (q8_Do.f k ⟨#[43]⟩ [⟨1, n⟩, ⟨1, m⟩]).bind fun bt516 => (if (!(bt516.1 == 1) || (!(bt516.2.1 == q))) = true then (none) else F k)) (fun k => ?_) ?_
  · rw [sred_is how true a (by omega) ha, sred_is how true b (by omega) hb, sred_is how false (a ++ b) (by rw [List.length_append]; omega) hc]
    simp only [Option.bind_some]
    show (q8_Do.f k ⟨#[43]⟩ [⟨1, n⟩, ⟨1, m⟩]).bind _ = (q8_Do.f k ⟨#[43]⟩ [⟨1, n⟩, ⟨1, m⟩]).bind _
    congr 1
    funext bt
    show (if wrap64 (wrap64 (0 + 0) + 0) = 0 then _ else _) = _
    rw [if_pos (by rw [wrap_id (n := (0 : Int) + 0) (by omega) (by omega), wrap_id (by omega) (by omega)]; rfl)]
  · refine Ev.bind (f := fun k bt516 => (if (!(bt516.1 == 1) || (!(bt516.2.1 == q))) = true then (none) else F k)) (rdo_ev ⟨#[43]⟩ (.inl rfl) ⟨1, n⟩ ⟨1, m⟩) ?_
    have e : vDo ⟨#[43]⟩ ([(⟨1, n⟩ : S25), ⟨1, m⟩].map sv) = ((1, n + m), 0) := plus_do n0 n1 m0 m1
    rw [e]
    refine Ev.congr (f := F) (fun k => ?_) hF
    rw [hq]
    simp
theorem parts_end (x y : Pt) (a' b' : List Pt) (h : ∀ z ∈ (x :: a') ++ (y :: b'), goodP z) (la : (x :: a').length ≤ 60) (lb : (y :: b').length ≤ 60) : Ev (fun k => l10_SeriesParts.l1 k (x :: a') (y :: b') ((x :: a') ++ (y :: b')) [⟨#[43]⟩, ⟨#[43]⟩] [bSum, bCount] 0) true := by
  generalize ea : x :: a' = a at *
  generalize eb : y :: b' = b at *
  have hga : ∀ z ∈ a, goodP z := fun z hz => h z (List.mem_append_left _ hz)
  have hgb : ∀ z ∈ b, goodP z := fun z hz => h z (List.mem_append_right _ hz)
  have lab : (a ++ b).length ≤ 120 := by rw [List.length_append]; omega
  have ba := sum_bound a hga
  have bb := sum_bound b hgb
  have e3 : Ev (fun k => l10_SeriesParts.l1 k a b (a ++ b) [⟨#[43]⟩, ⟨#[43]⟩] [bSum, bCount] 2) true := by
    refine Ev.step (f := fun _ => some true) (fun k => ?_) (Ev.now _)
    simp only [l10_SeriesParts.l1]
    rw [if_neg (by decide)]
    subst ea; subst eb
    have hm := red_min true h lab
    rw [sred_is bMin true _ (by omega) (red_min true hga (by omega)), sred_is bMin true _ (by omega) (red_min true hgb (by omega)), sred_is bMin true _ lab hm]
    have e : mnGo x.f1.f1 (a' ++ (y :: b')) = mn (mnGo x.f1.f1 a') (mnGo y.f1.f1 b') := by
      rw [mnGo_append]
      show mnGo (mn (mnGo x.f1.f1 a') y.f1.f1) b' = _
      rw [mnGo_mn]
    show (if mnGo x.f1.f1 (a' ++ (y :: b')) = mn (mnGo x.f1.f1 a') (mnGo y.f1.f1 b') then _ else _) = _
    rw [if_pos e]
    rfl
  have w1 : wrap64 ((1 : Int) + 1) = 2 := by rw [wrap_id (by omega) (by omega)]; rfl
  have w0 : wrap64 ((0 : Int) + 1) = 1 := by rw [wrap_id (by omega) (by omega)]; rfl
  have hnb : b ≠ [] := by rw [← eb]; simp
  have hna : a ≠ [] := by rw [← ea]; simp
  have hnab : a ++ b ≠ [] := by rw [← ea]; simp
  have e2 : Ev (fun k => l10_SeriesParts.l1 k a b (a ++ b) [⟨#[43]⟩, ⟨#[43]⟩] [bSum, bCount] 1) true := by
    refine Ev.step (fun k => ?_) (parts_round bCount (red_count true hga (by omega)) (red_count true hgb (by omega)) (red_count false h lab) (by rw [List.length_append]; omega) la lb (by omega) (by omega) (by omega) (by omega) e3)
    simp only [l10_SeriesParts.l1]
    rw [if_pos (by decide), if_pos (by decide), w1]
    rfl
  refine Ev.step (fun k => ?_) (parts_round bSum (red_sum true hga (by omega) hna) (red_sum true hgb (by omega) hnb) (red_sum false h lab hnab) (sumP_append a b) la lb (by omega) (by omega) (by omega) (by omega) e2)
  simp only [l10_SeriesParts.l1]
  rw [if_pos (by decide), if_pos (by decide), w0]
  rfl
theorem parts_loop (a b : List Pt) (la : a.length ≤ 60) (lb : b.length ≤ 60) : ∀ (d i : Nat), i + d = (a ++ b).length → (∀ j, (hj : j < (a ++ b).length) → j < i → goodP (a ++ b)[j]) → Ev (fun k => l10_SeriesParts.l0 k a b (a ++ b) (i : Int)) true
  | 0, i, hd, hg => by
    have hgood : ∀ z ∈ a ++ b, goodP z := fun z hz => by
      obtain ⟨j, hj, rfl⟩ := List.getElem_of_mem hz
      exact hg j hj (by omega)
    have live : ∀ k, l10_SeriesParts.j2 (k + 1) a b (a ++ b) true = some true := fun k => rfl
    cases a with
    | nil =>
      refine Ev.step (f := fun k => l10_SeriesParts.j2 k [] b ([] ++ b) true) (fun k => ?_) (Ev.step (f := fun _ => some true) live (Ev.now _))
      simp only [l10_SeriesParts.l0]
      rw [if_neg (by omega), if_pos (by simp)]
    | cons x a' =>
      cases b with
      | nil =>
        refine Ev.step (f := fun k => l10_SeriesParts.j2 k (x :: a') [] ((x :: a') ++ []) true) (fun k => ?_) (Ev.step (f := fun _ => some true) live (Ev.now _))
        simp only [l10_SeriesParts.l0]
        rw [if_neg (by omega), if_neg (by rw [List.length_cons]; omega)]
        rfl
      | cons y b' =>
        refine Ev.step (f := fun k => l10_SeriesParts.j2 k (x :: a') (y :: b') ((x :: a') ++ (y :: b')) false) (fun k => ?_) (Ev.step (fun k => ?_) (parts_end x y a' b' hgood la lb))
        · simp only [l10_SeriesParts.l0]
          rw [if_neg (by omega), if_neg (by rw [List.length_cons]; omega), beq_false_of_ne (by rw [List.length_cons]; omega)]
        · simp only [l10_SeriesParts.j2]
          rw [if_neg (by decide)]
  | d + 1, i, hd, hg => by
    have hi : i < (a ++ b).length := by omega
    have hab : (a ++ b).length ≤ 120 := by rw [List.length_append]; omega
    by_cases h1 : (a ++ b)[i].f1.f0 = 1
    · by_cases h2 : (a ++ b)[i].f1.f1 > 1000000000
      · refine Ev.step (f := fun _ => some true) (fun k => ?_) (Ev.now _)
        simp only [l10_SeriesParts.l0]
        rw [if_pos (by omega), if_pos (by omega), rdP_at hi, if_pos h1, if_pos h2]
        rfl
      · by_cases h3 : (a ++ b)[i].f1.f1 < -1000000000
        · refine Ev.step (f := fun _ => some true) (fun k => ?_) (Ev.now _)
          simp only [l10_SeriesParts.l0]
          rw [if_pos (by omega), if_pos (by omega), rdP_at hi, if_pos h1, if_neg h2, if_pos h3]
          rfl
        · refine Ev.step (f := fun k => l10_SeriesParts.l0 k a b (a ++ b) ((i + 1 : Nat) : Int)) (fun k => ?_) (parts_loop a b la lb d (i + 1) (by omega) (fun j hj hji => ?_))
          · simp only [l10_SeriesParts.l0]
            rw [if_pos (by omega), if_pos (by omega), rdP_at hi, if_pos h1, if_neg h2, if_neg h3, wrap_nat (by omega)]
          · by_cases e : j = i
            · subst e; exact ⟨h1, by omega, by omega⟩
            · exact hg j hj (by omega)
    · refine Ev.step (f := fun _ => some true) (fun k => ?_) (Ev.now _)
      simp only [l10_SeriesParts.l0]
      rw [if_pos (by omega), if_pos (by omega), rdP_at hi, if_neg h1]
      rfl
theorem parts_law (a b : List S39) : Ev (fun k => l10_SeriesParts.f k a b) true := by
  have hj : Ev (fun k => l10_SeriesParts.j0 k a b true) true := Ev.step (f := fun _ => some true) (fun k => rfl) (Ev.now _)
  unfold l10_SeriesParts.f
  by_cases h1 : (a.length : Int) > 60
  · exact Ev.congr (fun k => by rw [if_pos h1]) hj
  · by_cases h2 : (b.length : Int) > 60
    · exact Ev.congr (fun k => by rw [if_neg h1, decide_eq_true h2]) hj
    · refine Ev.congr (f := fun k => l10_SeriesParts.j0 k a b false) (fun k => by rw [if_neg h1, decide_eq_false h2]) ?_
      refine Ev.step (f := fun k => l10_SeriesParts.l0 k a b (a ++ b) ((0 : Nat) : Int)) (fun k => ?_) (parts_loop a b (by omega) (by omega) (a ++ b).length 0 (by omega) (fun j hj h => by omega))
      simp only [l10_SeriesParts.j0]
      rw [if_neg (by decide), Option.bind_some, if_pos (by simp; omega), Option.bind_some, List.nil_append, if_pos (by omega)]
      rfl
end Go.Proofs.YtcmiehddjgfjaaaGreat.A
