/- slices.SortStableFunc, at a row of the call's own, of whatever kind. -/
import Derived.Test.YtaonabfnagmogaaGSt6
import Derived.Test.YtaonabfnagmogaaStRow
import Derived.Test.YtaonabfnagmogaaWFour
import Derived.Test.YtaonabfnagmogaaWQPut
import Derived.Test.YtaonabfnagmogaaWApart
import Derived.Test.YtaonabfnagmogaaWArr
import Derived.Test.YtaonabfnagmogaaWZeros
import Derived.Test.YtaonabfnagmogaaWFoot
import Derived.Test.YtaonabfnagmogaaWKept
import Derived.Test.YtaonabfnagmogaaWShare
import Derived.Test.YtaonabfnagmogaaWN
import Derived.Test.YtaonabfnagmogaaWFootNe
import Derived.Test.YtaonabfnagmogaaWAt
import Derived.Test.YtaonabfnagmogaaWEqStruct
import Derived.Test.YtaonabfnagmogaaWRepsOne
import Derived.Test.YtaonabfnagmogaaWInv
import Derived.Test.YtaonabfnagmogaaWInvWords
import Derived.Test.YtaonabfnagmogaaWGuard
import Derived.Test.YtaonabfnagmogaaWNEv
import Derived.Test.YtaonabfnagmogaaWMore
namespace Go.Proofs.Ytaonabfnagmogaa.St.GSt
open Go.Proofs Go.Shelf Go.RowKit Go.Lib Go.Sort Go.Proofs.Ytaonabfnagmogaa.Stable Go.Proofs.YtaonabfnagmogaaW.PrintWords Go.Proofs.YtaonabfnagmogaaW.PrintLast Go.Proofs.YtaonabfnagmogaaW.PrintMore
set_option linter.unusedVariables false
set_option linter.unusedSimpArgs false
theorem lays : StLays Try.prog where
  mixed := by kernel_rfl
  f30 := Try.func30
  f33 := Try.func33
  f34 := Try.func34
  f36 := Try.func36
  f37 := Try.func37
  e33 := enters_of Try.func33 (by kernel_rfl) rfl
  e34 := enters_of Try.func34 (by kernel_rfl) rfl
  e36 := enters_of Try.func36 (by kernel_rfl) rfl
  e37 := enters_of Try.func37 (by kernel_rfl) rfl
  t3 := Try.underlying3
  a3 := Try.isAgg3
  z3 := Try.sizeOf3
  v3 := Try.zeroValue3
  t4 := Try.underlying4
  a4 := Try.isAgg4
  z4 := Try.sizeOf4
  v4 := Try.zeroValue4
  t53 := Try.underlying53
  a53 := Try.isAgg53
  z53 := Try.sizeOf53
  t22 := Try.underlying22
  a22 := Try.isAgg22
  z22 := Try.sizeOf22
  t45 := Try.underlying45
  a45 := Try.isAgg45
  z45 := Try.sizeOf45
theorem ins_none (A : Option Addr) (c g : Nat) (cb : Array Value) (w : World) :
    Calls Try.prog 33 #[.slice A 0 c, .int .i64 0, .int .i64 0, .func (.func g) #[] cb] w fun e w' => e = .returned (.tuple #[]) ∧ w' = w := by
  go_enter Try.func33, Try.ntmps33
  go_wp2_with fail
  go_loopg [8, 9] 0 (fun kq v8 v9 w' => v8 = .int .i64 1 ∧ w' = w)
  case atStart => exact ⟨rfl, rfl⟩
  case round =>
    obtain ⟨rfl, rfl⟩ := hrel
    go_wp2
    go_end0; exact ⟨rfl, rfl⟩
theorem stable_none (A : Option Addr) (c g : Nat) (cb : Array Value) (w : World) :
    Calls Try.prog 30 #[.slice A 0 c, .int .i64 0, .func (.func g) #[] cb] w fun e w' => e = .returned (.tuple #[]) ∧ w' = w := by
  go_enter Try.func30, Try.ntmps30
  go_wp2_with fail
  go_loopg [7, 8] 0 (fun kq v7 v8 w' => v7 = .int .i64 0 ∧ v8 = .int .i64 20 ∧ w' = w)
  case atStart => exact ⟨rfl, rfl, rfl⟩
  case round =>
    obtain ⟨rfl, rfl, rfl⟩ := hrel
    go_wp2_with fail
    refine (ins_none A c g cb wr).mono ?_
    rintro e w' ⟨rfl, rfl⟩
    go_wp2_with fail
    go_loopg [6, 7, 8, 9] 0 (fun kq v6 v7 v8 v9 w1 => v6 = .int .i64 20 ∧ w1 = w')
    case atStart => exact ⟨rfl, rfl⟩
    case round =>
      obtain ⟨rfl, rfl⟩ := hrel
      go_wp2
      go_end0; exact ⟨rfl, rfl⟩
/-- 'cmp' tells the order of two elements, in whatever world in which they can be read. -/
def CmpTells {α : Type} (d : Kd α) (g : Nat) (cb : Array Value) (cmp : α → α → Int) : Prop :=
  ∀ (W : World) (base : Nat) (ok : Nat → Prop) (x y : α) (cs ds : List Value), d.M W base ok x cs → d.M W base ok y ds →
    Calls Try.prog g (#[.agg cs.toArray, .agg ds.toArray] ++ cb) W fun e w' => e = .returned (.int .i64 (cmp x y)) ∧ Below W.heap.size W w'
theorem stable_R {α : Type} (d : Kd α) (hz : 0 < d.sz) (zE : ∀ w, (Go.sizeOf 27).run Try.prog w = .ok d.sz w) (cmp : α → α → Int) (g : Nat) (cb : Array Value) (eg : ∀ args w, (callFunc g args).run Try.prog w = .ok (.enter g args) w)
    (O : Stable.Ord (ltOf cmp)) (hcmp : CmpTells d g cb cmp) {w0 : World} {base : Nat} {ok : Nat → Prop} {v : Value} {xs : List α} (h : Kd.R d 27 w0 base ok v xs) (hl : xs.length < 1152921504606846976) :
    Calls Try.prog 30 #[v, .int .i64 xs.length, .func (.func g) #[] cb] w0 fun e w' => e = .returned (.tuple #[]) ∧ Kd.R d 27 w' base ok v (isort (ltOf cmp) xs) ∧ Below base w0 w' := by
  obtain ⟨A, c, rfl⟩ := Kd.R_slice h
  by_cases hx : xs = []
  · subst hx
    refine (stable_none A c g cb w0).mono ?_
    rintro e w' ⟨rfl, rfl⟩
    exact ⟨rfl, h, Below.refl _ _⟩
  · obtain ⟨ad, _, he⟩ := Kd.R_slice1 h (List.length_pos_iff.2 hx)
    injection he with he1 _ _
    subst he1
    obtain ⟨blk, rfl⟩ := Kd.R_head h
    obtain ⟨I, d0, hm, hs, hb, R⟩ := row_in h hx hz
    have hC : CmpB Try.prog g cb (elc (d := d) (w := w0) (base := base) (ok := ok) (g := blk)) d.sz (fun x y => cmp (elv x) (elv y)) blk 0 xs.length w0 := by
      intro dk W hdk hS x y
      exact hcmp W base _ _ _ _ _ (Kd.M_step x.2 (fun k hk hlt => hS.other hlt (fun e => hk.2 (by rw [e])))) (Kd.M_step y.2 (fun k hk hlt => hS.other hlt (fun e => hk.2 (by rw [e]))))
    have O' : Stable.Ord (ltOf (fun x y : El d w0 base ok blk => cmp (elv x) (elv y))) := ord_map elv O
    refine (stable_w lays d.sz Try.isAgg27 zE elc (fun x y => cmp (elv x) (elv y)) g cb eg blk 0 c xs.length d0 w0 R hs hC O' hl).mono ?_
    rintro e w' ⟨rfl, d', hd', hn, hS⟩
    obtain ⟨h1, h2⟩ := row_out h hx hn hS
    have e1 : d'.toList.map elv = isort (ltOf cmp) xs := by
      rw [hd', ← hm]
      exact isort_map elv (ltOf cmp) d0.toList
    rw [e1] at h1
    exact ⟨rfl, h1, h2 base hb⟩
/-- slices.SortStableFunc. -/
theorem sortStable_R {α : Type} (d : Kd α) (hz : 0 < d.sz) (zE : ∀ w, (Go.sizeOf 27).run Try.prog w = .ok d.sz w) (cmp : α → α → Int) (g : Nat) (cb : Array Value) (eg : ∀ args w, (callFunc g args).run Try.prog w = .ok (.enter g args) w)
    (O : Stable.Ord (ltOf cmp)) (hcmp : CmpTells d g cb cmp) {w0 : World} {base : Nat} {ok : Nat → Prop} {v : Value} {xs : List α} (h : Kd.R d 27 w0 base ok v xs) (hl : xs.length < 1152921504606846976) :
    Calls Try.prog 23 #[v, .func (.func g) #[] cb] w0 fun e w' => e = .returned (.tuple #[]) ∧ Kd.R d 27 w' base ok v (isort (ltOf cmp) xs) ∧ Below base w0 w' := by
  have hc := stable_R d hz zE cmp g cb eg O hcmp h hl
  obtain ⟨A, c, rfl⟩ := Kd.R_slice h
  have HC := aside hc
  clear hc h hcmp O eg zE
  go_enter Try.func23, Try.ntmps23
  go_wp2_with fail
  refine HC.out.mono ?_
  rintro e w' ⟨rfl, h1, h2⟩
  go_wp2
  go_end0
  exact ⟨rfl, h1, h2⟩
end Go.Proofs.Ytaonabfnagmogaa.St.GSt
