/- The stable sort's functions: what of the program they lean on; two ranges exchanged. After the shelf's way for package slices (a class of worlds). -/
import Derived.Test.YtaonabfnagmogaaProg
import Derived.Test.YtaonabfnagmogaaStBase
import Derived.Test.YtaonabfnagmogaaStList
import Derived.Shelf.SlSortCmp.ReverseRangeK
namespace Go.Proofs.Ytaonabfnagmogaa.St.GSt
open Go.Proofs Go.Shelf Go.RowKit Go.Lib Go.Sort
set_option linter.unusedVariables false
set_option linter.unusedSimpArgs false
/-- What the walks take of a program: its functions and types at these numbers. -/
structure StLays (P : Program) : Prop where
  mixed : P.follows .mixedOrders = true
  f30 : P.funcs[30]? = some Try.f30
  f33 : P.funcs[33]? = some Try.f33
  f34 : P.funcs[34]? = some Try.f34
  f36 : P.funcs[36]? = some Try.f36
  f37 : P.funcs[37]? = some Try.f37
  e33 : ∀ args w, (callFunc 33 args).run P w = .ok (.enter 33 args) w
  e34 : ∀ args w, (callFunc 34 args).run P w = .ok (.enter 34 args) w
  e36 : ∀ args w, (callFunc 36 args).run P w = .ok (.enter 36 args) w
  e37 : ∀ args w, (callFunc 37 args).run P w = .ok (.enter 37 args) w
  t3 : P.underlying 3 = some (TypeDesc.int IntKind.i64)
  a3 : ∀ w, (isAgg 3).run P w = .ok false w
  z3 : ∀ w, (Go.sizeOf 3).run P w = .ok 1 w
  v3 : ∀ w, (zeroValue 3).run P w = .ok (Value.int IntKind.i64 0) w
  t4 : P.underlying 4 = some (TypeDesc.bool)
  a4 : ∀ w, (isAgg 4).run P w = .ok false w
  z4 : ∀ w, (Go.sizeOf 4).run P w = .ok 1 w
  v4 : ∀ w, (zeroValue 4).run P w = .ok (Value.bool false) w
  t53 : P.underlying 53 = some (TypeDesc.int IntKind.u64)
  a53 : ∀ w, (isAgg 53).run P w = .ok false w
  z53 : ∀ w, (Go.sizeOf 53).run P w = .ok 1 w
  t22 : P.underlying 22 = some (TypeDesc.slice 27)
  a22 : ∀ w, (isAgg 22).run P w = .ok false w
  z22 : ∀ w, (Go.sizeOf 22).run P w = .ok 1 w
  t45 : P.underlying 45 = some (TypeDesc.func #[27, 27] #[3] false)
  a45 : ∀ w, (isAgg 45).run P w = .ok false w
  z45 : ∀ w, (Go.sizeOf 45).run P w = .ok 1 w
variable {P : Program} {α : Type} [Inhabited α]
set_option maxHeartbeats 4000000 in
set_option maxRecDepth 1000000 in
theorem swapRange_w (L : StLays P) (k : Nat) (aE : ∀ w, (isAgg 27).run P w = .ok true w) (zE : ∀ w, (Go.sizeOf 27).run P w = .ok k w) (enc : α → List Value) (g : Nat) (cb : Array Value) (blk off cap a b n : Nat) (d0 d : Array α) (w0 w : World)
    (R : RowK enc k w0 blk off d0) (hs : d0.size = d.size) (S : SB enc k w0 blk off d w) (ha : a + n ≤ d.size) (hb : b + n ≤ d.size) (hsz : d.size < 4611686018427387904) :
    Calls P 37 #[.slice (some ⟨blk, off, none⟩) d.size cap, .int .i64 a, .int .i64 b, .int .i64 n, .func (.func g) #[] cb] w fun e w' => e = .returned (.tuple #[]) ∧ SB enc k w0 blk off (swpR a b 0 n d) w' := by
  have mixed := L.mixed; have t3 := L.t3; have a3 := L.a3; have z3 := L.z3; have v3 := L.v3; have t4 := L.t4; have a4 := L.a4; have z4 := L.z4; have v4 := L.v4; have t22 := L.t22; have a22 := L.a22; have z22 := L.z22
  have FG := L.f37
  have S0 : Aside (SB enc k w0 blk off d w) := S
  clear S
  go_enter FG, Try.ntmps37
  go_wp2_with fail
  go_loopg [10] n (fun kx s10 wr => ∃ (i : Nat) (dk : Array α), s10 = .int .i64 i ∧ i ≤ n ∧ kx = n - i ∧ dk.size = d.size ∧ Aside (SB enc k w0 blk off dk wr) ∧ swpR a b i (n - i) dk = swpR a b 0 n d)
  case atStart => exact ⟨0, d, rfl, Nat.zero_le _, rfl, rfl, S0, rfl⟩
  case round =>
    clear S0
    obtain ⟨i, dk, rfl, hin, hkx, hds, S1, heq⟩ := hrel
    by_cases hlt : i < n
    · have hltz : (i : Int) < (n : Int) := by omega
      go_wp2_with fail
      have eA : ((a : Int) + (i : Int)).toNat = a + i := by omega
      have pA : (0 : Int) ≤ (a : Int) + (i : Int) := by omega
      have bA : (a : Int) + (i : Int) < (d.size : Int) := by omega
      have rA : IntKind.i64.wrap ((a : Int) + (i : Int)) = (a : Int) + (i : Int) := by rw [IntKind.wrap_i64]; omega
      have eB : ((b : Int) + (i : Int)).toNat = b + i := by omega
      have pB : (0 : Int) ≤ (b : Int) + (i : Int) := by omega
      have bB : (b : Int) + (i : Int) < (d.size : Int) := by omega
      have rB : IntKind.i64.wrap ((b : Int) + (i : Int)) = (b : Int) + (i : Int) := by rw [IntKind.wrap_i64]; omega
      have S2 : Aside (SB enc k w0 blk off (swp dk (a + i) (b + i)) ((wr.drew.setCells blk (off + (a + i) * k) (enc dk[b + i]!)).setCells blk (off + (b + i) * k) (enc dk[a + i]!))) := S1.out.swapped R (a + i) (b + i) (by omega) (by omega)
      have la := S1.out.ld1 R (by omega) P (a + i) (by omega)
      have lb := S1.out.ld1 R (by omega) P (b + i) (by omega)
      have sa := S1.out.st1 R (by omega) P (a + i) (by omega) dk[b + i]!
      have sb := S1.out.st2 R (by omega) P (a + i) (b + i) (by omega) (by omega) dk[b + i]! dk[a + i]!
      have na : (enc dk[a + i]!).length = k := R.hk _
      have nb : (enc dk[b + i]!).length = k := R.hk _
      generalize enc dk[a + i]! = cI at S2 la sb na
      generalize enc dk[b + i]! = cJ at S2 lb sa sb nb
      clear S1
      go_wp2_with fail
      go_big_region_o
      clear la lb sa sb
      generalize (wr.drew.setCells blk (off + (a + i) * k) cJ).setCells blk (off + (b + i) * k) cI = w2 at S2 ⊢
      go_wp2
      go_roundg (n - (i + 1))
      case measure => omega
      case rel =>
        rw [show n - i = n - (i + 1) + 1 by omega, swpR] at heq
        exact ⟨i + 1, swp dk (a + i) (b + i), by go_num, by omega, rfl, by rw [size_swp]; exact hds, S2, heq⟩
    · have hi : i = n := by omega
      subst hi
      go_wp2
      go_end0
      refine ⟨rfl, ?_⟩
      rw [Nat.sub_self, swpR] at heq
      rw [← heq]
      exact S1.out
end Go.Proofs.Ytaonabfnagmogaa.St.GSt
