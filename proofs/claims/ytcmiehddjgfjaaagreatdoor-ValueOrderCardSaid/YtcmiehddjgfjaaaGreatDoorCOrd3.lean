/- Laid by a program of this place, a turned copy of the printer (branches that tell false struck): functions, their contracts, and proofs that Lean checks. -/
import Derived.Test.YtcmiehddjgfjaaaGreatDoorCOrd0
import Derived.Test.YtcmiehddjgfjaaaGreatDoorCOrd1
import Derived.Test.YtcmiehddjgfjaaaGreatDoorCOrd2
namespace Go.Proofs.YtcmiehddjgfjaaaGreatDoor.A
open Go.RowKit Go.Proofs.YtcmiehddjgfjaaaGreatDoorW.PrintWords Go.Proofs.YtcmiehddjgfjaaaGreatDoorW.PrintLast Go.Proofs.YtcmiehddjgfjaaaGreatDoorW.PrintMore
attribute [local go_sem] max2_int min2_int max_two min_two max_three min_three max_four min_four   -- for this text's walks alone
set_option linter.unusedVariables false
set_option linter.unusedSimpArgs false

attribute [local go_sem high] eqA25
/-! ### klaxonlaw08_live: function 10 -/
def klaxonlaw08_live.f  : Option (Bool) := (value_Num.f 1000).bind fun bt227 => ((value_Num.f 3000).bind fun bt229 => ((value_Do.f (⟨#[47]⟩ : ByteArray) (([(⟨bt227.1, bt227.2⟩ : S25), (⟨bt229.1, bt229.2⟩ : S25)] : List (S25)))).bind fun bt234 => ((value_Num.f (-1)).bind fun bt238 => ((value_Num.f 0).bind fun bt240 => ((value_Do.f (⟨#[47]⟩ : ByteArray) (([(⟨bt238.1, bt238.2⟩ : S25), (⟨bt240.1, bt240.2⟩ : S25)] : List (S25)))).bind fun bt245 => ((value_Null.f).bind fun bt249 => ((value_Num.f 1).bind fun bt251 => ((value_Do.f (⟨#[62]⟩ : ByteArray) (([(⟨bt249.1, bt249.2⟩ : S25), (⟨bt251.1, bt251.2⟩ : S25)] : List (S25)))).bind fun bt256 => ((value_NaN.f).bind fun bt260 => ((value_NaN.f).bind fun bt262 => ((value_Do.f (⟨#[33, 61]⟩ : ByteArray) (([(⟨bt260.1, bt260.2⟩ : S25), (⟨bt262.1, bt262.2⟩ : S25)] : List (S25)))).bind fun bt267 => ((value_Parse.f (⟨#[45, 49, 50, 46, 48, 53]⟩ : ByteArray)).bind fun bt271 => ((klaxonlaw08_num.f bt234.2.2).bind fun t275 => ((klaxonlaw08_num.f bt245.2.2).bind fun t276 => ((klaxonlaw08_num.f bt256.2.2).bind fun t277 => ((klaxonlaw08_num.f bt267.2.2).bind fun t278 => ((klaxonlaw08_num.f bt271.2.2).bind fun t279 => (if (wrap64 ((wrap64 ((wrap64 ((wrap64 (t275 + t276)) + t277)) + t278)) + t279)) = 0 then ((klaxonref08_Num.f 333).bind fun bt280 => (if (bt234.1 == bt280.1 && (bt234.2.1 == bt280.2)) = true then ((klaxonref08_Minus.f).bind fun bt282 => (if (bt245.1 == bt282.1 && (bt245.2.1 == bt282.2)) = true then ((klaxonref08_Null.f).bind fun bt284 => (if (bt256.1 == bt284.1 && (bt256.2.1 == bt284.2)) = true then ((klaxonref08_Num.f 1000).bind fun bt286 => (if (bt267.1 == bt286.1 && (bt267.2.1 == bt286.2)) = true then ((klaxonref08_Num.f (-12050)).bind fun bt288 => (if (bt271.1 == bt288.1 && (bt271.2.1 == bt288.2)) = true then ((value_Print.f bt271.1 bt271.2.1).bind fun t290 => (if t290.toList = ([45, 49, 50, 46, 48, 53] : List UInt8) then ((value_Check.f (([(⟨0, 0⟩ : S25)] : List (S25)))).bind fun t294 => ((klaxonlaw08_num.f t294).bind fun t295 => (some (t295 == 80)))) else (none))) else (none))) else (none))) else (none))) else (none))) else (none))) else (none)))))))))))))))))))
def klaxonlaw08_live.T6 : Bool × List (List Nat × List Nat) := (true, [([], []), ([0], [0]), ([], []), ([2, 1], [2]), ([1, 3], [1, 3]), ([], []), ([5, 3], [5]), ([4, 6], [4, 6]), ([], []), ([8, 6], [8]), ([7, 9], [7, 9]), ([], []), ([11, 9], [11]), ([10, 12], [10, 12]), ([13], [13]), ([14, 12], [14]), ([15], [15]), ([15, 15], [15]), ([16, 17, 15], [15, 16, 17]), ([15, 18], [15, 18]), ([19, 17], [19]), ([20], [20]), ([20, 20], [20]), ([21, 22, 20], [20, 21, 22]), ([20, 23], [20, 23]), ([24, 22], [24]), ([25], [25]), ([25, 25], [25]), ([26, 27, 25], [25, 26, 27]), ([25, 28], [25, 28]), ([29, 27], [29]), ([30], [30]), ([30, 30], [30]), ([31, 32, 30], [30, 31, 32]), ([30, 33], [30, 33]), ([34, 32], [34]), ([35], [35]), ([35, 35], [35]), ([36, 37, 35], [35, 36, 37]), ([35, 38], [35, 38]), ([39, 37], [39]), ([40], [40]), ([41, 40, 40], [40, 41]), ([42, 40], [40, 42]), ([40, 43], [40, 43]), ([44, 42], [44]), ([45], [45]), ([46, 45], [45, 46]), ([47, 45, 45], [45, 47]), ([48, 48, 45], [45, 48]), ([49, 45], [45, 49]), ([45, 50], [45, 50]), ([51, 49, 0, 1, 2, 3, 4, 5, 6, 7, 8, 9, 10, 11, 12, 13, 14, 15, 16, 17, 18, 19, 20, 21, 22, 23, 24, 25, 26, 27, 28, 29, 30, 31, 32, 33, 34, 35, 36, 37, 38, 39, 40, 41, 42, 43, 44, 45, 46, 47, 48, 49, 50, 51], [51])])
def klaxonlaw08_live.B6 : List Nat := [0, 1, 0, 7, 15, 0, 47, 127, 0, 367, 1023, 0, 2927, 8191, 16383, 32767, 65535, 65535, 262143, 524287, 1048575, 2097151, 2097151, 8388607, 16777215, 33554431, 67108863, 67108863, 268435455, 536870911, 1073741823, 2147483647, 2147483647, 8589934591, 17179869183, 34359738367, 68719476735, 68719476735, 274877906943, 549755813887, 1099511627775, 2199023255551, 4398046511103, 8796093022207, 17592186044415, 35184372088831, 70368744177663, 140737488355327, 281474976710655, 562949953421311, 1125899906842623, 2251799813685247, 4503599627370495]
theorem klaxonlaw08_live.tab6 : rtab .any (opsOf Tryz.f10 6) = klaxonlaw08_live.T6 := by kernel_rfl
theorem klaxonlaw08_live.bits6 : waitsOk klaxonlaw08_live.T6.2 klaxonlaw08_live.B6 = true := by kernel_rfl
set_option maxHeartbeats 8000000 in
set_option maxRecDepth 100000 in
theorem klaxonlaw08_live.calls  (r : Bool) (w : World) (h : klaxonlaw08_live.f  = some r) (G : Glob w) :
    Calls Tryz.prog 10 #[] w fun e w' => e = .returned (.bool r) ∧ Below w.heap.size w w' := by
  have hu25 := Tryz.underlying25
  have HB := Aside0.mk (Below.refl w.heap.size w)
  have HG := Aside0.mk G
  clear G
  have H : ((value_Num.f 1000).bind fun bt227 => ((value_Num.f 3000).bind fun bt229 => ((value_Do.f (⟨#[47]⟩ : ByteArray) (([(⟨bt227.1, bt227.2⟩ : S25), (⟨bt229.1, bt229.2⟩ : S25)] : List (S25)))).bind fun bt234 => ((value_Num.f (-1)).bind fun bt238 => ((value_Num.f 0).bind fun bt240 => ((value_Do.f (⟨#[47]⟩ : ByteArray) (([(⟨bt238.1, bt238.2⟩ : S25), (⟨bt240.1, bt240.2⟩ : S25)] : List (S25)))).bind fun bt245 => ((value_Null.f).bind fun bt249 => ((value_Num.f 1).bind fun bt251 => ((value_Do.f (⟨#[62]⟩ : ByteArray) (([(⟨bt249.1, bt249.2⟩ : S25), (⟨bt251.1, bt251.2⟩ : S25)] : List (S25)))).bind fun bt256 => ((value_NaN.f).bind fun bt260 => ((value_NaN.f).bind fun bt262 => ((value_Do.f (⟨#[33, 61]⟩ : ByteArray) (([(⟨bt260.1, bt260.2⟩ : S25), (⟨bt262.1, bt262.2⟩ : S25)] : List (S25)))).bind fun bt267 => ((value_Parse.f (⟨#[45, 49, 50, 46, 48, 53]⟩ : ByteArray)).bind fun bt271 => ((klaxonlaw08_num.f bt234.2.2).bind fun t275 => ((klaxonlaw08_num.f bt245.2.2).bind fun t276 => ((klaxonlaw08_num.f bt256.2.2).bind fun t277 => ((klaxonlaw08_num.f bt267.2.2).bind fun t278 => ((klaxonlaw08_num.f bt271.2.2).bind fun t279 => (if (wrap64 ((wrap64 ((wrap64 ((wrap64 (t275 + t276)) + t277)) + t278)) + t279)) = 0 then ((klaxonref08_Num.f 333).bind fun bt280 => (if (bt234.1 == bt280.1 && (bt234.2.1 == bt280.2)) = true then ((klaxonref08_Minus.f).bind fun bt282 => (if (bt245.1 == bt282.1 && (bt245.2.1 == bt282.2)) = true then ((klaxonref08_Null.f).bind fun bt284 => (if (bt256.1 == bt284.1 && (bt256.2.1 == bt284.2)) = true then ((klaxonref08_Num.f 1000).bind fun bt286 => (if (bt267.1 == bt286.1 && (bt267.2.1 == bt286.2)) = true then ((klaxonref08_Num.f (-12050)).bind fun bt288 => (if (bt271.1 == bt288.1 && (bt271.2.1 == bt288.2)) = true then ((value_Print.f bt271.1 bt271.2.1).bind fun t290 => (if t290.toList = ([45, 49, 50, 46, 48, 53] : List UInt8) then ((value_Check.f (([(⟨0, 0⟩ : S25)] : List (S25)))).bind fun t294 => ((klaxonlaw08_num.f t294).bind fun t295 => (some (t295 == 80)))) else (none))) else (none))) else (none))) else (none))) else (none))) else (none))) else (none)))))))))))))))))))) = some r := h
  clear h
  replace H := Option.bind_eq_some_iff.mp H
  obtain ⟨⟨t227, t228⟩, A10, H⟩ := H
  replace H : ((value_Num.f 3000).bind fun bt229 => ((value_Do.f (⟨#[47]⟩ : ByteArray) (([(⟨t227, t228⟩ : S25), (⟨bt229.1, bt229.2⟩ : S25)] : List (S25)))).bind fun bt234 => ((value_Num.f (-1)).bind fun bt238 => ((value_Num.f 0).bind fun bt240 => ((value_Do.f (⟨#[47]⟩ : ByteArray) (([(⟨bt238.1, bt238.2⟩ : S25), (⟨bt240.1, bt240.2⟩ : S25)] : List (S25)))).bind fun bt245 => ((value_Null.f).bind fun bt249 => ((value_Num.f 1).bind fun bt251 => ((value_Do.f (⟨#[62]⟩ : ByteArray) (([(⟨bt249.1, bt249.2⟩ : S25), (⟨bt251.1, bt251.2⟩ : S25)] : List (S25)))).bind fun bt256 => ((value_NaN.f).bind fun bt260 => ((value_NaN.f).bind fun bt262 => ((value_Do.f (⟨#[33, 61]⟩ : ByteArray) (([(⟨bt260.1, bt260.2⟩ : S25), (⟨bt262.1, bt262.2⟩ : S25)] : List (S25)))).bind fun bt267 => ((value_Parse.f (⟨#[45, 49, 50, 46, 48, 53]⟩ : ByteArray)).bind fun bt271 => ((klaxonlaw08_num.f bt234.2.2).bind fun t275 => ((klaxonlaw08_num.f bt245.2.2).bind fun t276 => ((klaxonlaw08_num.f bt256.2.2).bind fun t277 => ((klaxonlaw08_num.f bt267.2.2).bind fun t278 => ((klaxonlaw08_num.f bt271.2.2).bind fun t279 => (if (wrap64 ((wrap64 ((wrap64 ((wrap64 (t275 + t276)) + t277)) + t278)) + t279)) = 0 then ((klaxonref08_Num.f 333).bind fun bt280 => (if (bt234.1 == bt280.1 && (bt234.2.1 == bt280.2)) = true then ((klaxonref08_Minus.f).bind fun bt282 => (if (bt245.1 == bt282.1 && (bt245.2.1 == bt282.2)) = true then ((klaxonref08_Null.f).bind fun bt284 => (if (bt256.1 == bt284.1 && (bt256.2.1 == bt284.2)) = true then ((klaxonref08_Num.f 1000).bind fun bt286 => (if (bt267.1 == bt286.1 && (bt267.2.1 == bt286.2)) = true then ((klaxonref08_Num.f (-12050)).bind fun bt288 => (if (bt271.1 == bt288.1 && (bt271.2.1 == bt288.2)) = true then ((value_Print.f bt271.1 bt271.2.1).bind fun t290 => (if t290.toList = ([45, 49, 50, 46, 48, 53] : List UInt8) then ((value_Check.f (([(⟨0, 0⟩ : S25)] : List (S25)))).bind fun t294 => ((klaxonlaw08_num.f t294).bind fun t295 => (some (t295 == 80)))) else (none))) else (none))) else (none))) else (none))) else (none))) else (none))) else (none))))))))))))))))))) = some r := H
  have A1 := Aside0.mk A10
  clear A10
  replace H := Option.bind_eq_some_iff.mp H
  obtain ⟨⟨t229, t230⟩, A20, H⟩ := H
  replace H : ((value_Do.f (⟨#[47]⟩ : ByteArray) (([(⟨t227, t228⟩ : S25), (⟨t229, t230⟩ : S25)] : List (S25)))).bind fun bt234 => ((value_Num.f (-1)).bind fun bt238 => ((value_Num.f 0).bind fun bt240 => ((value_Do.f (⟨#[47]⟩ : ByteArray) (([(⟨bt238.1, bt238.2⟩ : S25), (⟨bt240.1, bt240.2⟩ : S25)] : List (S25)))).bind fun bt245 => ((value_Null.f).bind fun bt249 => ((value_Num.f 1).bind fun bt251 => ((value_Do.f (⟨#[62]⟩ : ByteArray) (([(⟨bt249.1, bt249.2⟩ : S25), (⟨bt251.1, bt251.2⟩ : S25)] : List (S25)))).bind fun bt256 => ((value_NaN.f).bind fun bt260 => ((value_NaN.f).bind fun bt262 => ((value_Do.f (⟨#[33, 61]⟩ : ByteArray) (([(⟨bt260.1, bt260.2⟩ : S25), (⟨bt262.1, bt262.2⟩ : S25)] : List (S25)))).bind fun bt267 => ((value_Parse.f (⟨#[45, 49, 50, 46, 48, 53]⟩ : ByteArray)).bind fun bt271 => ((klaxonlaw08_num.f bt234.2.2).bind fun t275 => ((klaxonlaw08_num.f bt245.2.2).bind fun t276 => ((klaxonlaw08_num.f bt256.2.2).bind fun t277 => ((klaxonlaw08_num.f bt267.2.2).bind fun t278 => ((klaxonlaw08_num.f bt271.2.2).bind fun t279 => (if (wrap64 ((wrap64 ((wrap64 ((wrap64 (t275 + t276)) + t277)) + t278)) + t279)) = 0 then ((klaxonref08_Num.f 333).bind fun bt280 => (if (bt234.1 == bt280.1 && (bt234.2.1 == bt280.2)) = true then ((klaxonref08_Minus.f).bind fun bt282 => (if (bt245.1 == bt282.1 && (bt245.2.1 == bt282.2)) = true then ((klaxonref08_Null.f).bind fun bt284 => (if (bt256.1 == bt284.1 && (bt256.2.1 == bt284.2)) = true then ((klaxonref08_Num.f 1000).bind fun bt286 => (if (bt267.1 == bt286.1 && (bt267.2.1 == bt286.2)) = true then ((klaxonref08_Num.f (-12050)).bind fun bt288 => (if (bt271.1 == bt288.1 && (bt271.2.1 == bt288.2)) = true then ((value_Print.f bt271.1 bt271.2.1).bind fun t290 => (if t290.toList = ([45, 49, 50, 46, 48, 53] : List UInt8) then ((value_Check.f (([(⟨0, 0⟩ : S25)] : List (S25)))).bind fun t294 => ((klaxonlaw08_num.f t294).bind fun t295 => (some (t295 == 80)))) else (none))) else (none))) else (none))) else (none))) else (none))) else (none))) else (none)))))))))))))))))) = some r := H
  have A2 := Aside0.mk A20
  clear A20
  obtain ⟨y231, hy231⟩ : ∃ y_ : List (S25), y_ = (([(⟨t227, t228⟩ : S25), (⟨t229, t230⟩ : S25)] : List (S25))) := ⟨_, rfl⟩
  replace H : ((value_Do.f (⟨#[47]⟩ : ByteArray) y231).bind fun bt234 => ((value_Num.f (-1)).bind fun bt238 => ((value_Num.f 0).bind fun bt240 => ((value_Do.f (⟨#[47]⟩ : ByteArray) (([(⟨bt238.1, bt238.2⟩ : S25), (⟨bt240.1, bt240.2⟩ : S25)] : List (S25)))).bind fun bt245 => ((value_Null.f).bind fun bt249 => ((value_Num.f 1).bind fun bt251 => ((value_Do.f (⟨#[62]⟩ : ByteArray) (([(⟨bt249.1, bt249.2⟩ : S25), (⟨bt251.1, bt251.2⟩ : S25)] : List (S25)))).bind fun bt256 => ((value_NaN.f).bind fun bt260 => ((value_NaN.f).bind fun bt262 => ((value_Do.f (⟨#[33, 61]⟩ : ByteArray) (([(⟨bt260.1, bt260.2⟩ : S25), (⟨bt262.1, bt262.2⟩ : S25)] : List (S25)))).bind fun bt267 => ((value_Parse.f (⟨#[45, 49, 50, 46, 48, 53]⟩ : ByteArray)).bind fun bt271 => ((klaxonlaw08_num.f bt234.2.2).bind fun t275 => ((klaxonlaw08_num.f bt245.2.2).bind fun t276 => ((klaxonlaw08_num.f bt256.2.2).bind fun t277 => ((klaxonlaw08_num.f bt267.2.2).bind fun t278 => ((klaxonlaw08_num.f bt271.2.2).bind fun t279 => (if (wrap64 ((wrap64 ((wrap64 ((wrap64 (t275 + t276)) + t277)) + t278)) + t279)) = 0 then ((klaxonref08_Num.f 333).bind fun bt280 => (if (bt234.1 == bt280.1 && (bt234.2.1 == bt280.2)) = true then ((klaxonref08_Minus.f).bind fun bt282 => (if (bt245.1 == bt282.1 && (bt245.2.1 == bt282.2)) = true then ((klaxonref08_Null.f).bind fun bt284 => (if (bt256.1 == bt284.1 && (bt256.2.1 == bt284.2)) = true then ((klaxonref08_Num.f 1000).bind fun bt286 => (if (bt267.1 == bt286.1 && (bt267.2.1 == bt286.2)) = true then ((klaxonref08_Num.f (-12050)).bind fun bt288 => (if (bt271.1 == bt288.1 && (bt271.2.1 == bt288.2)) = true then ((value_Print.f bt271.1 bt271.2.1).bind fun t290 => (if t290.toList = ([45, 49, 50, 46, 48, 53] : List UInt8) then ((value_Check.f (([(⟨0, 0⟩ : S25)] : List (S25)))).bind fun t294 => ((klaxonlaw08_num.f t294).bind fun t295 => (some (t295 == 80)))) else (none))) else (none))) else (none))) else (none))) else (none))) else (none))) else (none)))))))))))))))))) = some r := by first | (rw [hy231]; with_reducible exact H) | (have H2_ := (Option.bind_some _ _).symm.trans H; rw [hy231]; with_reducible exact H2_) | (have H2_ := (Option.bind_some _ _).symm.trans H; with_reducible exact H2_) | with_reducible exact H | (rw [hy231]; exact H) | exact H
  have Ny231 := Aside0.mk hy231
  clear hy231
  replace H := Option.bind_eq_some_iff.mp H
  obtain ⟨⟨t234, t235, t236⟩, A30, H⟩ := H
  replace H : ((value_Num.f (-1)).bind fun bt238 => ((value_Num.f 0).bind fun bt240 => ((value_Do.f (⟨#[47]⟩ : ByteArray) (([(⟨bt238.1, bt238.2⟩ : S25), (⟨bt240.1, bt240.2⟩ : S25)] : List (S25)))).bind fun bt245 => ((value_Null.f).bind fun bt249 => ((value_Num.f 1).bind fun bt251 => ((value_Do.f (⟨#[62]⟩ : ByteArray) (([(⟨bt249.1, bt249.2⟩ : S25), (⟨bt251.1, bt251.2⟩ : S25)] : List (S25)))).bind fun bt256 => ((value_NaN.f).bind fun bt260 => ((value_NaN.f).bind fun bt262 => ((value_Do.f (⟨#[33, 61]⟩ : ByteArray) (([(⟨bt260.1, bt260.2⟩ : S25), (⟨bt262.1, bt262.2⟩ : S25)] : List (S25)))).bind fun bt267 => ((value_Parse.f (⟨#[45, 49, 50, 46, 48, 53]⟩ : ByteArray)).bind fun bt271 => ((klaxonlaw08_num.f t236).bind fun t275 => ((klaxonlaw08_num.f bt245.2.2).bind fun t276 => ((klaxonlaw08_num.f bt256.2.2).bind fun t277 => ((klaxonlaw08_num.f bt267.2.2).bind fun t278 => ((klaxonlaw08_num.f bt271.2.2).bind fun t279 => (if (wrap64 ((wrap64 ((wrap64 ((wrap64 (t275 + t276)) + t277)) + t278)) + t279)) = 0 then ((klaxonref08_Num.f 333).bind fun bt280 => (if (t234 == bt280.1 && (t235 == bt280.2)) = true then ((klaxonref08_Minus.f).bind fun bt282 => (if (bt245.1 == bt282.1 && (bt245.2.1 == bt282.2)) = true then ((klaxonref08_Null.f).bind fun bt284 => (if (bt256.1 == bt284.1 && (bt256.2.1 == bt284.2)) = true then ((klaxonref08_Num.f 1000).bind fun bt286 => (if (bt267.1 == bt286.1 && (bt267.2.1 == bt286.2)) = true then ((klaxonref08_Num.f (-12050)).bind fun bt288 => (if (bt271.1 == bt288.1 && (bt271.2.1 == bt288.2)) = true then ((value_Print.f bt271.1 bt271.2.1).bind fun t290 => (if t290.toList = ([45, 49, 50, 46, 48, 53] : List UInt8) then ((value_Check.f (([(⟨0, 0⟩ : S25)] : List (S25)))).bind fun t294 => ((klaxonlaw08_num.f t294).bind fun t295 => (some (t295 == 80)))) else (none))) else (none))) else (none))) else (none))) else (none))) else (none))) else (none))))))))))))))))) = some r := H
  have A3 := Aside0.mk A30
  clear A30
  replace H := Option.bind_eq_some_iff.mp H
  obtain ⟨⟨t238, t239⟩, A40, H⟩ := H
  replace H : ((value_Num.f 0).bind fun bt240 => ((value_Do.f (⟨#[47]⟩ : ByteArray) (([(⟨t238, t239⟩ : S25), (⟨bt240.1, bt240.2⟩ : S25)] : List (S25)))).bind fun bt245 => ((value_Null.f).bind fun bt249 => ((value_Num.f 1).bind fun bt251 => ((value_Do.f (⟨#[62]⟩ : ByteArray) (([(⟨bt249.1, bt249.2⟩ : S25), (⟨bt251.1, bt251.2⟩ : S25)] : List (S25)))).bind fun bt256 => ((value_NaN.f).bind fun bt260 => ((value_NaN.f).bind fun bt262 => ((value_Do.f (⟨#[33, 61]⟩ : ByteArray) (([(⟨bt260.1, bt260.2⟩ : S25), (⟨bt262.1, bt262.2⟩ : S25)] : List (S25)))).bind fun bt267 => ((value_Parse.f (⟨#[45, 49, 50, 46, 48, 53]⟩ : ByteArray)).bind fun bt271 => ((klaxonlaw08_num.f t236).bind fun t275 => ((klaxonlaw08_num.f bt245.2.2).bind fun t276 => ((klaxonlaw08_num.f bt256.2.2).bind fun t277 => ((klaxonlaw08_num.f bt267.2.2).bind fun t278 => ((klaxonlaw08_num.f bt271.2.2).bind fun t279 => (if (wrap64 ((wrap64 ((wrap64 ((wrap64 (t275 + t276)) + t277)) + t278)) + t279)) = 0 then ((klaxonref08_Num.f 333).bind fun bt280 => (if (t234 == bt280.1 && (t235 == bt280.2)) = true then ((klaxonref08_Minus.f).bind fun bt282 => (if (bt245.1 == bt282.1 && (bt245.2.1 == bt282.2)) = true then ((klaxonref08_Null.f).bind fun bt284 => (if (bt256.1 == bt284.1 && (bt256.2.1 == bt284.2)) = true then ((klaxonref08_Num.f 1000).bind fun bt286 => (if (bt267.1 == bt286.1 && (bt267.2.1 == bt286.2)) = true then ((klaxonref08_Num.f (-12050)).bind fun bt288 => (if (bt271.1 == bt288.1 && (bt271.2.1 == bt288.2)) = true then ((value_Print.f bt271.1 bt271.2.1).bind fun t290 => (if t290.toList = ([45, 49, 50, 46, 48, 53] : List UInt8) then ((value_Check.f (([(⟨0, 0⟩ : S25)] : List (S25)))).bind fun t294 => ((klaxonlaw08_num.f t294).bind fun t295 => (some (t295 == 80)))) else (none))) else (none))) else (none))) else (none))) else (none))) else (none))) else (none)))))))))))))))) = some r := H
  have A4 := Aside0.mk A40
  clear A40
  replace H := Option.bind_eq_some_iff.mp H
  obtain ⟨⟨t240, t241⟩, A50, H⟩ := H
  replace H : ((value_Do.f (⟨#[47]⟩ : ByteArray) (([(⟨t238, t239⟩ : S25), (⟨t240, t241⟩ : S25)] : List (S25)))).bind fun bt245 => ((value_Null.f).bind fun bt249 => ((value_Num.f 1).bind fun bt251 => ((value_Do.f (⟨#[62]⟩ : ByteArray) (([(⟨bt249.1, bt249.2⟩ : S25), (⟨bt251.1, bt251.2⟩ : S25)] : List (S25)))).bind fun bt256 => ((value_NaN.f).bind fun bt260 => ((value_NaN.f).bind fun bt262 => ((value_Do.f (⟨#[33, 61]⟩ : ByteArray) (([(⟨bt260.1, bt260.2⟩ : S25), (⟨bt262.1, bt262.2⟩ : S25)] : List (S25)))).bind fun bt267 => ((value_Parse.f (⟨#[45, 49, 50, 46, 48, 53]⟩ : ByteArray)).bind fun bt271 => ((klaxonlaw08_num.f t236).bind fun t275 => ((klaxonlaw08_num.f bt245.2.2).bind fun t276 => ((klaxonlaw08_num.f bt256.2.2).bind fun t277 => ((klaxonlaw08_num.f bt267.2.2).bind fun t278 => ((klaxonlaw08_num.f bt271.2.2).bind fun t279 => (if (wrap64 ((wrap64 ((wrap64 ((wrap64 (t275 + t276)) + t277)) + t278)) + t279)) = 0 then ((klaxonref08_Num.f 333).bind fun bt280 => (if (t234 == bt280.1 && (t235 == bt280.2)) = true then ((klaxonref08_Minus.f).bind fun bt282 => (if (bt245.1 == bt282.1 && (bt245.2.1 == bt282.2)) = true then ((klaxonref08_Null.f).bind fun bt284 => (if (bt256.1 == bt284.1 && (bt256.2.1 == bt284.2)) = true then ((klaxonref08_Num.f 1000).bind fun bt286 => (if (bt267.1 == bt286.1 && (bt267.2.1 == bt286.2)) = true then ((klaxonref08_Num.f (-12050)).bind fun bt288 => (if (bt271.1 == bt288.1 && (bt271.2.1 == bt288.2)) = true then ((value_Print.f bt271.1 bt271.2.1).bind fun t290 => (if t290.toList = ([45, 49, 50, 46, 48, 53] : List UInt8) then ((value_Check.f (([(⟨0, 0⟩ : S25)] : List (S25)))).bind fun t294 => ((klaxonlaw08_num.f t294).bind fun t295 => (some (t295 == 80)))) else (none))) else (none))) else (none))) else (none))) else (none))) else (none))) else (none))))))))))))))) = some r := H
  have A5 := Aside0.mk A50
  clear A50
  obtain ⟨y242, hy242⟩ : ∃ y_ : List (S25), y_ = (([(⟨t238, t239⟩ : S25), (⟨t240, t241⟩ : S25)] : List (S25))) := ⟨_, rfl⟩
  replace H : ((value_Do.f (⟨#[47]⟩ : ByteArray) y242).bind fun bt245 => ((value_Null.f).bind fun bt249 => ((value_Num.f 1).bind fun bt251 => ((value_Do.f (⟨#[62]⟩ : ByteArray) (([(⟨bt249.1, bt249.2⟩ : S25), (⟨bt251.1, bt251.2⟩ : S25)] : List (S25)))).bind fun bt256 => ((value_NaN.f).bind fun bt260 => ((value_NaN.f).bind fun bt262 => ((value_Do.f (⟨#[33, 61]⟩ : ByteArray) (([(⟨bt260.1, bt260.2⟩ : S25), (⟨bt262.1, bt262.2⟩ : S25)] : List (S25)))).bind fun bt267 => ((value_Parse.f (⟨#[45, 49, 50, 46, 48, 53]⟩ : ByteArray)).bind fun bt271 => ((klaxonlaw08_num.f t236).bind fun t275 => ((klaxonlaw08_num.f bt245.2.2).bind fun t276 => ((klaxonlaw08_num.f bt256.2.2).bind fun t277 => ((klaxonlaw08_num.f bt267.2.2).bind fun t278 => ((klaxonlaw08_num.f bt271.2.2).bind fun t279 => (if (wrap64 ((wrap64 ((wrap64 ((wrap64 (t275 + t276)) + t277)) + t278)) + t279)) = 0 then ((klaxonref08_Num.f 333).bind fun bt280 => (if (t234 == bt280.1 && (t235 == bt280.2)) = true then ((klaxonref08_Minus.f).bind fun bt282 => (if (bt245.1 == bt282.1 && (bt245.2.1 == bt282.2)) = true then ((klaxonref08_Null.f).bind fun bt284 => (if (bt256.1 == bt284.1 && (bt256.2.1 == bt284.2)) = true then ((klaxonref08_Num.f 1000).bind fun bt286 => (if (bt267.1 == bt286.1 && (bt267.2.1 == bt286.2)) = true then ((klaxonref08_Num.f (-12050)).bind fun bt288 => (if (bt271.1 == bt288.1 && (bt271.2.1 == bt288.2)) = true then ((value_Print.f bt271.1 bt271.2.1).bind fun t290 => (if t290.toList = ([45, 49, 50, 46, 48, 53] : List UInt8) then ((value_Check.f (([(⟨0, 0⟩ : S25)] : List (S25)))).bind fun t294 => ((klaxonlaw08_num.f t294).bind fun t295 => (some (t295 == 80)))) else (none))) else (none))) else (none))) else (none))) else (none))) else (none))) else (none))))))))))))))) = some r := by first | (rw [hy242]; with_reducible exact H) | (have H2_ := (Option.bind_some _ _).symm.trans H; rw [hy242]; with_reducible exact H2_) | (have H2_ := (Option.bind_some _ _).symm.trans H; with_reducible exact H2_) | with_reducible exact H | (rw [hy242]; exact H) | exact H
  have Ny242 := Aside0.mk hy242
  clear hy242
  replace H := Option.bind_eq_some_iff.mp H
  obtain ⟨⟨t245, t246, t247⟩, A60, H⟩ := H
  replace H : ((value_Null.f).bind fun bt249 => ((value_Num.f 1).bind fun bt251 => ((value_Do.f (⟨#[62]⟩ : ByteArray) (([(⟨bt249.1, bt249.2⟩ : S25), (⟨bt251.1, bt251.2⟩ : S25)] : List (S25)))).bind fun bt256 => ((value_NaN.f).bind fun bt260 => ((value_NaN.f).bind fun bt262 => ((value_Do.f (⟨#[33, 61]⟩ : ByteArray) (([(⟨bt260.1, bt260.2⟩ : S25), (⟨bt262.1, bt262.2⟩ : S25)] : List (S25)))).bind fun bt267 => ((value_Parse.f (⟨#[45, 49, 50, 46, 48, 53]⟩ : ByteArray)).bind fun bt271 => ((klaxonlaw08_num.f t236).bind fun t275 => ((klaxonlaw08_num.f t247).bind fun t276 => ((klaxonlaw08_num.f bt256.2.2).bind fun t277 => ((klaxonlaw08_num.f bt267.2.2).bind fun t278 => ((klaxonlaw08_num.f bt271.2.2).bind fun t279 => (if (wrap64 ((wrap64 ((wrap64 ((wrap64 (t275 + t276)) + t277)) + t278)) + t279)) = 0 then ((klaxonref08_Num.f 333).bind fun bt280 => (if (t234 == bt280.1 && (t235 == bt280.2)) = true then ((klaxonref08_Minus.f).bind fun bt282 => (if (t245 == bt282.1 && (t246 == bt282.2)) = true then ((klaxonref08_Null.f).bind fun bt284 => (if (bt256.1 == bt284.1 && (bt256.2.1 == bt284.2)) = true then ((klaxonref08_Num.f 1000).bind fun bt286 => (if (bt267.1 == bt286.1 && (bt267.2.1 == bt286.2)) = true then ((klaxonref08_Num.f (-12050)).bind fun bt288 => (if (bt271.1 == bt288.1 && (bt271.2.1 == bt288.2)) = true then ((value_Print.f bt271.1 bt271.2.1).bind fun t290 => (if t290.toList = ([45, 49, 50, 46, 48, 53] : List UInt8) then ((value_Check.f (([(⟨0, 0⟩ : S25)] : List (S25)))).bind fun t294 => ((klaxonlaw08_num.f t294).bind fun t295 => (some (t295 == 80)))) else (none))) else (none))) else (none))) else (none))) else (none))) else (none))) else (none)))))))))))))) = some r := H
  have A6 := Aside0.mk A60
  clear A60
  replace H := Option.bind_eq_some_iff.mp H
  obtain ⟨⟨t249, t250⟩, A70, H⟩ := H
  replace H : ((value_Num.f 1).bind fun bt251 => ((value_Do.f (⟨#[62]⟩ : ByteArray) (([(⟨t249, t250⟩ : S25), (⟨bt251.1, bt251.2⟩ : S25)] : List (S25)))).bind fun bt256 => ((value_NaN.f).bind fun bt260 => ((value_NaN.f).bind fun bt262 => ((value_Do.f (⟨#[33, 61]⟩ : ByteArray) (([(⟨bt260.1, bt260.2⟩ : S25), (⟨bt262.1, bt262.2⟩ : S25)] : List (S25)))).bind fun bt267 => ((value_Parse.f (⟨#[45, 49, 50, 46, 48, 53]⟩ : ByteArray)).bind fun bt271 => ((klaxonlaw08_num.f t236).bind fun t275 => ((klaxonlaw08_num.f t247).bind fun t276 => ((klaxonlaw08_num.f bt256.2.2).bind fun t277 => ((klaxonlaw08_num.f bt267.2.2).bind fun t278 => ((klaxonlaw08_num.f bt271.2.2).bind fun t279 => (if (wrap64 ((wrap64 ((wrap64 ((wrap64 (t275 + t276)) + t277)) + t278)) + t279)) = 0 then ((klaxonref08_Num.f 333).bind fun bt280 => (if (t234 == bt280.1 && (t235 == bt280.2)) = true then ((klaxonref08_Minus.f).bind fun bt282 => (if (t245 == bt282.1 && (t246 == bt282.2)) = true then ((klaxonref08_Null.f).bind fun bt284 => (if (bt256.1 == bt284.1 && (bt256.2.1 == bt284.2)) = true then ((klaxonref08_Num.f 1000).bind fun bt286 => (if (bt267.1 == bt286.1 && (bt267.2.1 == bt286.2)) = true then ((klaxonref08_Num.f (-12050)).bind fun bt288 => (if (bt271.1 == bt288.1 && (bt271.2.1 == bt288.2)) = true then ((value_Print.f bt271.1 bt271.2.1).bind fun t290 => (if t290.toList = ([45, 49, 50, 46, 48, 53] : List UInt8) then ((value_Check.f (([(⟨0, 0⟩ : S25)] : List (S25)))).bind fun t294 => ((klaxonlaw08_num.f t294).bind fun t295 => (some (t295 == 80)))) else (none))) else (none))) else (none))) else (none))) else (none))) else (none))) else (none))))))))))))) = some r := H
  have A7 := Aside0.mk A70
  clear A70
  replace H := Option.bind_eq_some_iff.mp H
  obtain ⟨⟨t251, t252⟩, A80, H⟩ := H
  replace H : ((value_Do.f (⟨#[62]⟩ : ByteArray) (([(⟨t249, t250⟩ : S25), (⟨t251, t252⟩ : S25)] : List (S25)))).bind fun bt256 => ((value_NaN.f).bind fun bt260 => ((value_NaN.f).bind fun bt262 => ((value_Do.f (⟨#[33, 61]⟩ : ByteArray) (([(⟨bt260.1, bt260.2⟩ : S25), (⟨bt262.1, bt262.2⟩ : S25)] : List (S25)))).bind fun bt267 => ((value_Parse.f (⟨#[45, 49, 50, 46, 48, 53]⟩ : ByteArray)).bind fun bt271 => ((klaxonlaw08_num.f t236).bind fun t275 => ((klaxonlaw08_num.f t247).bind fun t276 => ((klaxonlaw08_num.f bt256.2.2).bind fun t277 => ((klaxonlaw08_num.f bt267.2.2).bind fun t278 => ((klaxonlaw08_num.f bt271.2.2).bind fun t279 => (if (wrap64 ((wrap64 ((wrap64 ((wrap64 (t275 + t276)) + t277)) + t278)) + t279)) = 0 then ((klaxonref08_Num.f 333).bind fun bt280 => (if (t234 == bt280.1 && (t235 == bt280.2)) = true then ((klaxonref08_Minus.f).bind fun bt282 => (if (t245 == bt282.1 && (t246 == bt282.2)) = true then ((klaxonref08_Null.f).bind fun bt284 => (if (bt256.1 == bt284.1 && (bt256.2.1 == bt284.2)) = true then ((klaxonref08_Num.f 1000).bind fun bt286 => (if (bt267.1 == bt286.1 && (bt267.2.1 == bt286.2)) = true then ((klaxonref08_Num.f (-12050)).bind fun bt288 => (if (bt271.1 == bt288.1 && (bt271.2.1 == bt288.2)) = true then ((value_Print.f bt271.1 bt271.2.1).bind fun t290 => (if t290.toList = ([45, 49, 50, 46, 48, 53] : List UInt8) then ((value_Check.f (([(⟨0, 0⟩ : S25)] : List (S25)))).bind fun t294 => ((klaxonlaw08_num.f t294).bind fun t295 => (some (t295 == 80)))) else (none))) else (none))) else (none))) else (none))) else (none))) else (none))) else (none)))))))))))) = some r := H
  have A8 := Aside0.mk A80
  clear A80
  obtain ⟨y253, hy253⟩ : ∃ y_ : List (S25), y_ = (([(⟨t249, t250⟩ : S25), (⟨t251, t252⟩ : S25)] : List (S25))) := ⟨_, rfl⟩
  replace H : ((value_Do.f (⟨#[62]⟩ : ByteArray) y253).bind fun bt256 => ((value_NaN.f).bind fun bt260 => ((value_NaN.f).bind fun bt262 => ((value_Do.f (⟨#[33, 61]⟩ : ByteArray) (([(⟨bt260.1, bt260.2⟩ : S25), (⟨bt262.1, bt262.2⟩ : S25)] : List (S25)))).bind fun bt267 => ((value_Parse.f (⟨#[45, 49, 50, 46, 48, 53]⟩ : ByteArray)).bind fun bt271 => ((klaxonlaw08_num.f t236).bind fun t275 => ((klaxonlaw08_num.f t247).bind fun t276 => ((klaxonlaw08_num.f bt256.2.2).bind fun t277 => ((klaxonlaw08_num.f bt267.2.2).bind fun t278 => ((klaxonlaw08_num.f bt271.2.2).bind fun t279 => (if (wrap64 ((wrap64 ((wrap64 ((wrap64 (t275 + t276)) + t277)) + t278)) + t279)) = 0 then ((klaxonref08_Num.f 333).bind fun bt280 => (if (t234 == bt280.1 && (t235 == bt280.2)) = true then ((klaxonref08_Minus.f).bind fun bt282 => (if (t245 == bt282.1 && (t246 == bt282.2)) = true then ((klaxonref08_Null.f).bind fun bt284 => (if (bt256.1 == bt284.1 && (bt256.2.1 == bt284.2)) = true then ((klaxonref08_Num.f 1000).bind fun bt286 => (if (bt267.1 == bt286.1 && (bt267.2.1 == bt286.2)) = true then ((klaxonref08_Num.f (-12050)).bind fun bt288 => (if (bt271.1 == bt288.1 && (bt271.2.1 == bt288.2)) = true then ((value_Print.f bt271.1 bt271.2.1).bind fun t290 => (if t290.toList = ([45, 49, 50, 46, 48, 53] : List UInt8) then ((value_Check.f (([(⟨0, 0⟩ : S25)] : List (S25)))).bind fun t294 => ((klaxonlaw08_num.f t294).bind fun t295 => (some (t295 == 80)))) else (none))) else (none))) else (none))) else (none))) else (none))) else (none))) else (none)))))))))))) = some r := by first | (rw [hy253]; with_reducible exact H) | (have H2_ := (Option.bind_some _ _).symm.trans H; rw [hy253]; with_reducible exact H2_) | (have H2_ := (Option.bind_some _ _).symm.trans H; with_reducible exact H2_) | with_reducible exact H | (rw [hy253]; exact H) | exact H
  have Ny253 := Aside0.mk hy253
  clear hy253
  replace H := Option.bind_eq_some_iff.mp H
  obtain ⟨⟨t256, t257, t258⟩, A90, H⟩ := H
  replace H : ((value_NaN.f).bind fun bt260 => ((value_NaN.f).bind fun bt262 => ((value_Do.f (⟨#[33, 61]⟩ : ByteArray) (([(⟨bt260.1, bt260.2⟩ : S25), (⟨bt262.1, bt262.2⟩ : S25)] : List (S25)))).bind fun bt267 => ((value_Parse.f (⟨#[45, 49, 50, 46, 48, 53]⟩ : ByteArray)).bind fun bt271 => ((klaxonlaw08_num.f t236).bind fun t275 => ((klaxonlaw08_num.f t247).bind fun t276 => ((klaxonlaw08_num.f t258).bind fun t277 => ((klaxonlaw08_num.f bt267.2.2).bind fun t278 => ((klaxonlaw08_num.f bt271.2.2).bind fun t279 => (if (wrap64 ((wrap64 ((wrap64 ((wrap64 (t275 + t276)) + t277)) + t278)) + t279)) = 0 then ((klaxonref08_Num.f 333).bind fun bt280 => (if (t234 == bt280.1 && (t235 == bt280.2)) = true then ((klaxonref08_Minus.f).bind fun bt282 => (if (t245 == bt282.1 && (t246 == bt282.2)) = true then ((klaxonref08_Null.f).bind fun bt284 => (if (t256 == bt284.1 && (t257 == bt284.2)) = true then ((klaxonref08_Num.f 1000).bind fun bt286 => (if (bt267.1 == bt286.1 && (bt267.2.1 == bt286.2)) = true then ((klaxonref08_Num.f (-12050)).bind fun bt288 => (if (bt271.1 == bt288.1 && (bt271.2.1 == bt288.2)) = true then ((value_Print.f bt271.1 bt271.2.1).bind fun t290 => (if t290.toList = ([45, 49, 50, 46, 48, 53] : List UInt8) then ((value_Check.f (([(⟨0, 0⟩ : S25)] : List (S25)))).bind fun t294 => ((klaxonlaw08_num.f t294).bind fun t295 => (some (t295 == 80)))) else (none))) else (none))) else (none))) else (none))) else (none))) else (none))) else (none))))))))))) = some r := H
  have A9 := Aside0.mk A90
  clear A90
  replace H := Option.bind_eq_some_iff.mp H
  obtain ⟨⟨t260, t261⟩, A100, H⟩ := H
  replace H : ((value_NaN.f).bind fun bt262 => ((value_Do.f (⟨#[33, 61]⟩ : ByteArray) (([(⟨t260, t261⟩ : S25), (⟨bt262.1, bt262.2⟩ : S25)] : List (S25)))).bind fun bt267 => ((value_Parse.f (⟨#[45, 49, 50, 46, 48, 53]⟩ : ByteArray)).bind fun bt271 => ((klaxonlaw08_num.f t236).bind fun t275 => ((klaxonlaw08_num.f t247).bind fun t276 => ((klaxonlaw08_num.f t258).bind fun t277 => ((klaxonlaw08_num.f bt267.2.2).bind fun t278 => ((klaxonlaw08_num.f bt271.2.2).bind fun t279 => (if (wrap64 ((wrap64 ((wrap64 ((wrap64 (t275 + t276)) + t277)) + t278)) + t279)) = 0 then ((klaxonref08_Num.f 333).bind fun bt280 => (if (t234 == bt280.1 && (t235 == bt280.2)) = true then ((klaxonref08_Minus.f).bind fun bt282 => (if (t245 == bt282.1 && (t246 == bt282.2)) = true then ((klaxonref08_Null.f).bind fun bt284 => (if (t256 == bt284.1 && (t257 == bt284.2)) = true then ((klaxonref08_Num.f 1000).bind fun bt286 => (if (bt267.1 == bt286.1 && (bt267.2.1 == bt286.2)) = true then ((klaxonref08_Num.f (-12050)).bind fun bt288 => (if (bt271.1 == bt288.1 && (bt271.2.1 == bt288.2)) = true then ((value_Print.f bt271.1 bt271.2.1).bind fun t290 => (if t290.toList = ([45, 49, 50, 46, 48, 53] : List UInt8) then ((value_Check.f (([(⟨0, 0⟩ : S25)] : List (S25)))).bind fun t294 => ((klaxonlaw08_num.f t294).bind fun t295 => (some (t295 == 80)))) else (none))) else (none))) else (none))) else (none))) else (none))) else (none))) else (none)))))))))) = some r := H
  have A10 := Aside0.mk A100
  clear A100
  replace H := Option.bind_eq_some_iff.mp H
  obtain ⟨⟨t262, t263⟩, A110, H⟩ := H
  replace H : ((value_Do.f (⟨#[33, 61]⟩ : ByteArray) (([(⟨t260, t261⟩ : S25), (⟨t262, t263⟩ : S25)] : List (S25)))).bind fun bt267 => ((value_Parse.f (⟨#[45, 49, 50, 46, 48, 53]⟩ : ByteArray)).bind fun bt271 => ((klaxonlaw08_num.f t236).bind fun t275 => ((klaxonlaw08_num.f t247).bind fun t276 => ((klaxonlaw08_num.f t258).bind fun t277 => ((klaxonlaw08_num.f bt267.2.2).bind fun t278 => ((klaxonlaw08_num.f bt271.2.2).bind fun t279 => (if (wrap64 ((wrap64 ((wrap64 ((wrap64 (t275 + t276)) + t277)) + t278)) + t279)) = 0 then ((klaxonref08_Num.f 333).bind fun bt280 => (if (t234 == bt280.1 && (t235 == bt280.2)) = true then ((klaxonref08_Minus.f).bind fun bt282 => (if (t245 == bt282.1 && (t246 == bt282.2)) = true then ((klaxonref08_Null.f).bind fun bt284 => (if (t256 == bt284.1 && (t257 == bt284.2)) = true then ((klaxonref08_Num.f 1000).bind fun bt286 => (if (bt267.1 == bt286.1 && (bt267.2.1 == bt286.2)) = true then ((klaxonref08_Num.f (-12050)).bind fun bt288 => (if (bt271.1 == bt288.1 && (bt271.2.1 == bt288.2)) = true then ((value_Print.f bt271.1 bt271.2.1).bind fun t290 => (if t290.toList = ([45, 49, 50, 46, 48, 53] : List UInt8) then ((value_Check.f (([(⟨0, 0⟩ : S25)] : List (S25)))).bind fun t294 => ((klaxonlaw08_num.f t294).bind fun t295 => (some (t295 == 80)))) else (none))) else (none))) else (none))) else (none))) else (none))) else (none))) else (none))))))))) = some r := H
  have A11 := Aside0.mk A110
  clear A110
  obtain ⟨y264, hy264⟩ : ∃ y_ : List (S25), y_ = (([(⟨t260, t261⟩ : S25), (⟨t262, t263⟩ : S25)] : List (S25))) := ⟨_, rfl⟩
  replace H : ((value_Do.f (⟨#[33, 61]⟩ : ByteArray) y264).bind fun bt267 => ((value_Parse.f (⟨#[45, 49, 50, 46, 48, 53]⟩ : ByteArray)).bind fun bt271 => ((klaxonlaw08_num.f t236).bind fun t275 => ((klaxonlaw08_num.f t247).bind fun t276 => ((klaxonlaw08_num.f t258).bind fun t277 => ((klaxonlaw08_num.f bt267.2.2).bind fun t278 => ((klaxonlaw08_num.f bt271.2.2).bind fun t279 => (if (wrap64 ((wrap64 ((wrap64 ((wrap64 (t275 + t276)) + t277)) + t278)) + t279)) = 0 then ((klaxonref08_Num.f 333).bind fun bt280 => (if (t234 == bt280.1 && (t235 == bt280.2)) = true then ((klaxonref08_Minus.f).bind fun bt282 => (if (t245 == bt282.1 && (t246 == bt282.2)) = true then ((klaxonref08_Null.f).bind fun bt284 => (if (t256 == bt284.1 && (t257 == bt284.2)) = true then ((klaxonref08_Num.f 1000).bind fun bt286 => (if (bt267.1 == bt286.1 && (bt267.2.1 == bt286.2)) = true then ((klaxonref08_Num.f (-12050)).bind fun bt288 => (if (bt271.1 == bt288.1 && (bt271.2.1 == bt288.2)) = true then ((value_Print.f bt271.1 bt271.2.1).bind fun t290 => (if t290.toList = ([45, 49, 50, 46, 48, 53] : List UInt8) then ((value_Check.f (([(⟨0, 0⟩ : S25)] : List (S25)))).bind fun t294 => ((klaxonlaw08_num.f t294).bind fun t295 => (some (t295 == 80)))) else (none))) else (none))) else (none))) else (none))) else (none))) else (none))) else (none))))))))) = some r := by first | (rw [hy264]; with_reducible exact H) | (have H2_ := (Option.bind_some _ _).symm.trans H; rw [hy264]; with_reducible exact H2_) | (have H2_ := (Option.bind_some _ _).symm.trans H; with_reducible exact H2_) | with_reducible exact H | (rw [hy264]; exact H) | exact H
  have Ny264 := Aside0.mk hy264
  clear hy264
  replace H := Option.bind_eq_some_iff.mp H
  obtain ⟨⟨t267, t268, t269⟩, A120, H⟩ := H
  replace H : ((value_Parse.f (⟨#[45, 49, 50, 46, 48, 53]⟩ : ByteArray)).bind fun bt271 => ((klaxonlaw08_num.f t236).bind fun t275 => ((klaxonlaw08_num.f t247).bind fun t276 => ((klaxonlaw08_num.f t258).bind fun t277 => ((klaxonlaw08_num.f t269).bind fun t278 => ((klaxonlaw08_num.f bt271.2.2).bind fun t279 => (if (wrap64 ((wrap64 ((wrap64 ((wrap64 (t275 + t276)) + t277)) + t278)) + t279)) = 0 then ((klaxonref08_Num.f 333).bind fun bt280 => (if (t234 == bt280.1 && (t235 == bt280.2)) = true then ((klaxonref08_Minus.f).bind fun bt282 => (if (t245 == bt282.1 && (t246 == bt282.2)) = true then ((klaxonref08_Null.f).bind fun bt284 => (if (t256 == bt284.1 && (t257 == bt284.2)) = true then ((klaxonref08_Num.f 1000).bind fun bt286 => (if (t267 == bt286.1 && (t268 == bt286.2)) = true then ((klaxonref08_Num.f (-12050)).bind fun bt288 => (if (bt271.1 == bt288.1 && (bt271.2.1 == bt288.2)) = true then ((value_Print.f bt271.1 bt271.2.1).bind fun t290 => (if t290.toList = ([45, 49, 50, 46, 48, 53] : List UInt8) then ((value_Check.f (([(⟨0, 0⟩ : S25)] : List (S25)))).bind fun t294 => ((klaxonlaw08_num.f t294).bind fun t295 => (some (t295 == 80)))) else (none))) else (none))) else (none))) else (none))) else (none))) else (none))) else (none)))))))) = some r := H
  have A12 := Aside0.mk A120
  clear A120
  replace H := Option.bind_eq_some_iff.mp H
  obtain ⟨⟨t271, t272, t273⟩, A130, H⟩ := H
  replace H : ((klaxonlaw08_num.f t236).bind fun t275 => ((klaxonlaw08_num.f t247).bind fun t276 => ((klaxonlaw08_num.f t258).bind fun t277 => ((klaxonlaw08_num.f t269).bind fun t278 => ((klaxonlaw08_num.f t273).bind fun t279 => (if (wrap64 ((wrap64 ((wrap64 ((wrap64 (t275 + t276)) + t277)) + t278)) + t279)) = 0 then ((klaxonref08_Num.f 333).bind fun bt280 => (if (t234 == bt280.1 && (t235 == bt280.2)) = true then ((klaxonref08_Minus.f).bind fun bt282 => (if (t245 == bt282.1 && (t246 == bt282.2)) = true then ((klaxonref08_Null.f).bind fun bt284 => (if (t256 == bt284.1 && (t257 == bt284.2)) = true then ((klaxonref08_Num.f 1000).bind fun bt286 => (if (t267 == bt286.1 && (t268 == bt286.2)) = true then ((klaxonref08_Num.f (-12050)).bind fun bt288 => (if (t271 == bt288.1 && (t272 == bt288.2)) = true then ((value_Print.f t271 t272).bind fun t290 => (if t290.toList = ([45, 49, 50, 46, 48, 53] : List UInt8) then ((value_Check.f (([(⟨0, 0⟩ : S25)] : List (S25)))).bind fun t294 => ((klaxonlaw08_num.f t294).bind fun t295 => (some (t295 == 80)))) else (none))) else (none))) else (none))) else (none))) else (none))) else (none))) else (none))))))) = some r := H
  have A13 := Aside0.mk A130
  clear A130
  replace H := Option.bind_eq_some_iff.mp H
  obtain ⟨t275, A140, H⟩ := H
  replace H : ((klaxonlaw08_num.f t247).bind fun t276 => ((klaxonlaw08_num.f t258).bind fun t277 => ((klaxonlaw08_num.f t269).bind fun t278 => ((klaxonlaw08_num.f t273).bind fun t279 => (if (wrap64 ((wrap64 ((wrap64 ((wrap64 (t275 + t276)) + t277)) + t278)) + t279)) = 0 then ((klaxonref08_Num.f 333).bind fun bt280 => (if (t234 == bt280.1 && (t235 == bt280.2)) = true then ((klaxonref08_Minus.f).bind fun bt282 => (if (t245 == bt282.1 && (t246 == bt282.2)) = true then ((klaxonref08_Null.f).bind fun bt284 => (if (t256 == bt284.1 && (t257 == bt284.2)) = true then ((klaxonref08_Num.f 1000).bind fun bt286 => (if (t267 == bt286.1 && (t268 == bt286.2)) = true then ((klaxonref08_Num.f (-12050)).bind fun bt288 => (if (t271 == bt288.1 && (t272 == bt288.2)) = true then ((value_Print.f t271 t272).bind fun t290 => (if t290.toList = ([45, 49, 50, 46, 48, 53] : List UInt8) then ((value_Check.f (([(⟨0, 0⟩ : S25)] : List (S25)))).bind fun t294 => ((klaxonlaw08_num.f t294).bind fun t295 => (some (t295 == 80)))) else (none))) else (none))) else (none))) else (none))) else (none))) else (none))) else (none)))))) = some r := H
  have A14 := Aside0.mk A140
  clear A140
  replace H := Option.bind_eq_some_iff.mp H
  obtain ⟨t276, A150, H⟩ := H
  replace H : ((klaxonlaw08_num.f t258).bind fun t277 => ((klaxonlaw08_num.f t269).bind fun t278 => ((klaxonlaw08_num.f t273).bind fun t279 => (if (wrap64 ((wrap64 ((wrap64 ((wrap64 (t275 + t276)) + t277)) + t278)) + t279)) = 0 then ((klaxonref08_Num.f 333).bind fun bt280 => (if (t234 == bt280.1 && (t235 == bt280.2)) = true then ((klaxonref08_Minus.f).bind fun bt282 => (if (t245 == bt282.1 && (t246 == bt282.2)) = true then ((klaxonref08_Null.f).bind fun bt284 => (if (t256 == bt284.1 && (t257 == bt284.2)) = true then ((klaxonref08_Num.f 1000).bind fun bt286 => (if (t267 == bt286.1 && (t268 == bt286.2)) = true then ((klaxonref08_Num.f (-12050)).bind fun bt288 => (if (t271 == bt288.1 && (t272 == bt288.2)) = true then ((value_Print.f t271 t272).bind fun t290 => (if t290.toList = ([45, 49, 50, 46, 48, 53] : List UInt8) then ((value_Check.f (([(⟨0, 0⟩ : S25)] : List (S25)))).bind fun t294 => ((klaxonlaw08_num.f t294).bind fun t295 => (some (t295 == 80)))) else (none))) else (none))) else (none))) else (none))) else (none))) else (none))) else (none))))) = some r := H
  have A15 := Aside0.mk A150
  clear A150
  replace H := Option.bind_eq_some_iff.mp H
  obtain ⟨t277, A160, H⟩ := H
  replace H : ((klaxonlaw08_num.f t269).bind fun t278 => ((klaxonlaw08_num.f t273).bind fun t279 => (if (wrap64 ((wrap64 ((wrap64 ((wrap64 (t275 + t276)) + t277)) + t278)) + t279)) = 0 then ((klaxonref08_Num.f 333).bind fun bt280 => (if (t234 == bt280.1 && (t235 == bt280.2)) = true then ((klaxonref08_Minus.f).bind fun bt282 => (if (t245 == bt282.1 && (t246 == bt282.2)) = true then ((klaxonref08_Null.f).bind fun bt284 => (if (t256 == bt284.1 && (t257 == bt284.2)) = true then ((klaxonref08_Num.f 1000).bind fun bt286 => (if (t267 == bt286.1 && (t268 == bt286.2)) = true then ((klaxonref08_Num.f (-12050)).bind fun bt288 => (if (t271 == bt288.1 && (t272 == bt288.2)) = true then ((value_Print.f t271 t272).bind fun t290 => (if t290.toList = ([45, 49, 50, 46, 48, 53] : List UInt8) then ((value_Check.f (([(⟨0, 0⟩ : S25)] : List (S25)))).bind fun t294 => ((klaxonlaw08_num.f t294).bind fun t295 => (some (t295 == 80)))) else (none))) else (none))) else (none))) else (none))) else (none))) else (none))) else (none)))) = some r := H
  have A16 := Aside0.mk A160
  clear A160
  replace H := Option.bind_eq_some_iff.mp H
  obtain ⟨t278, A170, H⟩ := H
  replace H : ((klaxonlaw08_num.f t273).bind fun t279 => (if (wrap64 ((wrap64 ((wrap64 ((wrap64 (t275 + t276)) + t277)) + t278)) + t279)) = 0 then ((klaxonref08_Num.f 333).bind fun bt280 => (if (t234 == bt280.1 && (t235 == bt280.2)) = true then ((klaxonref08_Minus.f).bind fun bt282 => (if (t245 == bt282.1 && (t246 == bt282.2)) = true then ((klaxonref08_Null.f).bind fun bt284 => (if (t256 == bt284.1 && (t257 == bt284.2)) = true then ((klaxonref08_Num.f 1000).bind fun bt286 => (if (t267 == bt286.1 && (t268 == bt286.2)) = true then ((klaxonref08_Num.f (-12050)).bind fun bt288 => (if (t271 == bt288.1 && (t272 == bt288.2)) = true then ((value_Print.f t271 t272).bind fun t290 => (if t290.toList = ([45, 49, 50, 46, 48, 53] : List UInt8) then ((value_Check.f (([(⟨0, 0⟩ : S25)] : List (S25)))).bind fun t294 => ((klaxonlaw08_num.f t294).bind fun t295 => (some (t295 == 80)))) else (none))) else (none))) else (none))) else (none))) else (none))) else (none))) else (none))) = some r := H
  have A17 := Aside0.mk A170
  clear A170
  replace H := Option.bind_eq_some_iff.mp H
  obtain ⟨t279, A180, H⟩ := H
  replace H : (if (wrap64 ((wrap64 ((wrap64 ((wrap64 (t275 + t276)) + t277)) + t278)) + t279)) = 0 then ((klaxonref08_Num.f 333).bind fun bt280 => (if (t234 == bt280.1 && (t235 == bt280.2)) = true then ((klaxonref08_Minus.f).bind fun bt282 => (if (t245 == bt282.1 && (t246 == bt282.2)) = true then ((klaxonref08_Null.f).bind fun bt284 => (if (t256 == bt284.1 && (t257 == bt284.2)) = true then ((klaxonref08_Num.f 1000).bind fun bt286 => (if (t267 == bt286.1 && (t268 == bt286.2)) = true then ((klaxonref08_Num.f (-12050)).bind fun bt288 => (if (t271 == bt288.1 && (t272 == bt288.2)) = true then ((value_Print.f t271 t272).bind fun t290 => (if t290.toList = ([45, 49, 50, 46, 48, 53] : List UInt8) then ((value_Check.f (([(⟨0, 0⟩ : S25)] : List (S25)))).bind fun t294 => ((klaxonlaw08_num.f t294).bind fun t295 => (some (t295 == 80)))) else (none))) else (none))) else (none))) else (none))) else (none))) else (none))) else (none)) = some r := H
  have A18 := Aside0.mk A180
  clear A180
  by_cases c19 : (wrap64 ((wrap64 ((wrap64 ((wrap64 (t275 + t276)) + t277)) + t278)) + t279)) = 0
  · rw [if_pos c19] at H
    have c19b0 : ((wrap64 ((wrap64 ((wrap64 ((wrap64 (t275 + t276)) + t277)) + t278)) + t279)) == 0) = true := beq_iff_eq.mpr c19
    have c19b1 : ((wrap64 ((wrap64 ((wrap64 ((wrap64 (t275 + t276)) + t277)) + t278)) + t279)) != 0) = false := bne_eq_false_iff_eq.mpr c19
    clear c19
    replace H := Option.bind_eq_some_iff.mp H
    obtain ⟨⟨t280, t281⟩, A200, H⟩ := H
    replace H : (if (t234 == t280 && (t235 == t281)) = true then ((klaxonref08_Minus.f).bind fun bt282 => (if (t245 == bt282.1 && (t246 == bt282.2)) = true then ((klaxonref08_Null.f).bind fun bt284 => (if (t256 == bt284.1 && (t257 == bt284.2)) = true then ((klaxonref08_Num.f 1000).bind fun bt286 => (if (t267 == bt286.1 && (t268 == bt286.2)) = true then ((klaxonref08_Num.f (-12050)).bind fun bt288 => (if (t271 == bt288.1 && (t272 == bt288.2)) = true then ((value_Print.f t271 t272).bind fun t290 => (if t290.toList = ([45, 49, 50, 46, 48, 53] : List UInt8) then ((value_Check.f (([(⟨0, 0⟩ : S25)] : List (S25)))).bind fun t294 => ((klaxonlaw08_num.f t294).bind fun t295 => (some (t295 == 80)))) else (none))) else (none))) else (none))) else (none))) else (none))) else (none)) = some r := H
    have A20 := Aside0.mk A200
    clear A200
    by_cases c21 : (t234 == t280 && (t235 == t281)) = true
    · rw [if_pos c21] at H
      have c21b0 : (t234 == t280 && (t235 == t281)) = true := c21
      (try (have c21b1 : decide (t234 = t280 && (t235 == t281)) = true := by simpa using c21))
      (try (have c21b2 : (t234 == t280 && (t235 == t281)) = true := by simpa using c21))
      clear c21
      replace H := Option.bind_eq_some_iff.mp H
      obtain ⟨⟨t282, t283⟩, A220, H⟩ := H
      replace H : (if (t245 == t282 && (t246 == t283)) = true then ((klaxonref08_Null.f).bind fun bt284 => (if (t256 == bt284.1 && (t257 == bt284.2)) = true then ((klaxonref08_Num.f 1000).bind fun bt286 => (if (t267 == bt286.1 && (t268 == bt286.2)) = true then ((klaxonref08_Num.f (-12050)).bind fun bt288 => (if (t271 == bt288.1 && (t272 == bt288.2)) = true then ((value_Print.f t271 t272).bind fun t290 => (if t290.toList = ([45, 49, 50, 46, 48, 53] : List UInt8) then ((value_Check.f (([(⟨0, 0⟩ : S25)] : List (S25)))).bind fun t294 => ((klaxonlaw08_num.f t294).bind fun t295 => (some (t295 == 80)))) else (none))) else (none))) else (none))) else (none))) else (none)) = some r := H
      have A22 := Aside0.mk A220
      clear A220
      by_cases c23 : (t245 == t282 && (t246 == t283)) = true
      · rw [if_pos c23] at H
        have c23b0 : (t245 == t282 && (t246 == t283)) = true := c23
        (try (have c23b1 : decide (t245 = t282 && (t246 == t283)) = true := by simpa using c23))
        (try (have c23b2 : (t245 == t282 && (t246 == t283)) = true := by simpa using c23))
        clear c23
        replace H := Option.bind_eq_some_iff.mp H
        obtain ⟨⟨t284, t285⟩, A240, H⟩ := H
        replace H : (if (t256 == t284 && (t257 == t285)) = true then ((klaxonref08_Num.f 1000).bind fun bt286 => (if (t267 == bt286.1 && (t268 == bt286.2)) = true then ((klaxonref08_Num.f (-12050)).bind fun bt288 => (if (t271 == bt288.1 && (t272 == bt288.2)) = true then ((value_Print.f t271 t272).bind fun t290 => (if t290.toList = ([45, 49, 50, 46, 48, 53] : List UInt8) then ((value_Check.f (([(⟨0, 0⟩ : S25)] : List (S25)))).bind fun t294 => ((klaxonlaw08_num.f t294).bind fun t295 => (some (t295 == 80)))) else (none))) else (none))) else (none))) else (none)) = some r := H
        have A24 := Aside0.mk A240
        clear A240
        by_cases c25 : (t256 == t284 && (t257 == t285)) = true
        · rw [if_pos c25] at H
          have c25b0 : (t256 == t284 && (t257 == t285)) = true := c25
          (try (have c25b1 : decide (t256 = t284 && (t257 == t285)) = true := by simpa using c25))
          (try (have c25b2 : (t256 == t284 && (t257 == t285)) = true := by simpa using c25))
          clear c25
          replace H := Option.bind_eq_some_iff.mp H
          obtain ⟨⟨t286, t287⟩, A260, H⟩ := H
          replace H : (if (t267 == t286 && (t268 == t287)) = true then ((klaxonref08_Num.f (-12050)).bind fun bt288 => (if (t271 == bt288.1 && (t272 == bt288.2)) = true then ((value_Print.f t271 t272).bind fun t290 => (if t290.toList = ([45, 49, 50, 46, 48, 53] : List UInt8) then ((value_Check.f (([(⟨0, 0⟩ : S25)] : List (S25)))).bind fun t294 => ((klaxonlaw08_num.f t294).bind fun t295 => (some (t295 == 80)))) else (none))) else (none))) else (none)) = some r := H
          have A26 := Aside0.mk A260
          clear A260
          by_cases c27 : (t267 == t286 && (t268 == t287)) = true
          · rw [if_pos c27] at H
            have c27b0 : (t267 == t286 && (t268 == t287)) = true := c27
            (try (have c27b1 : decide (t267 = t286 && (t268 == t287)) = true := by simpa using c27))
            (try (have c27b2 : (t267 == t286 && (t268 == t287)) = true := by simpa using c27))
            clear c27
            replace H := Option.bind_eq_some_iff.mp H
            obtain ⟨⟨t288, t289⟩, A280, H⟩ := H
            replace H : (if (t271 == t288 && (t272 == t289)) = true then ((value_Print.f t271 t272).bind fun t290 => (if t290.toList = ([45, 49, 50, 46, 48, 53] : List UInt8) then ((value_Check.f (([(⟨0, 0⟩ : S25)] : List (S25)))).bind fun t294 => ((klaxonlaw08_num.f t294).bind fun t295 => (some (t295 == 80)))) else (none))) else (none)) = some r := H
            have A28 := Aside0.mk A280
            clear A280
            by_cases c29 : (t271 == t288 && (t272 == t289)) = true
            · rw [if_pos c29] at H
              have c29b0 : (t271 == t288 && (t272 == t289)) = true := c29
              (try (have c29b1 : decide (t271 = t288 && (t272 == t289)) = true := by simpa using c29))
              (try (have c29b2 : (t271 == t288 && (t272 == t289)) = true := by simpa using c29))
              clear c29
              replace H := Option.bind_eq_some_iff.mp H
              obtain ⟨t290, A300, H⟩ := H
              replace H : (if t290.toList = ([45, 49, 50, 46, 48, 53] : List UInt8) then ((value_Check.f (([(⟨0, 0⟩ : S25)] : List (S25)))).bind fun t294 => ((klaxonlaw08_num.f t294).bind fun t295 => (some (t295 == 80)))) else (none)) = some r := H
              have A30 := Aside0.mk A300
              clear A300
              by_cases c31 : t290.toList = ([45, 49, 50, 46, 48, 53] : List UInt8)
              · rw [if_pos c31] at H
                have c31b0 : (t290.toList == ([45, 49, 50, 46, 48, 53] : List UInt8)) = true := beq_iff_eq.mpr c31
                have c31b1 : (t290.toList != ([45, 49, 50, 46, 48, 53] : List UInt8)) = false := bne_eq_false_iff_eq.mpr c31
                clear c31
                obtain ⟨y291, hy291⟩ : ∃ y_ : List (S25), y_ = (([(⟨0, 0⟩ : S25)] : List (S25))) := ⟨_, rfl⟩
                replace H : ((value_Check.f y291).bind fun t294 => ((klaxonlaw08_num.f t294).bind fun t295 => (some (t295 == 80)))) = some r := by first | (rw [hy291]; with_reducible exact H) | (have H2_ := (Option.bind_some _ _).symm.trans H; rw [hy291]; with_reducible exact H2_) | (have H2_ := (Option.bind_some _ _).symm.trans H; with_reducible exact H2_) | with_reducible exact H | (rw [hy291]; exact H) | exact H
                have Ny291 := Aside0.mk hy291
                clear hy291
                replace H := Option.bind_eq_some_iff.mp H
                obtain ⟨t294, A320, H⟩ := H
                replace H : ((klaxonlaw08_num.f t294).bind fun t295 => (some (t295 == 80))) = some r := H
                have A32 := Aside0.mk A320
                clear A320
                replace H := Option.bind_eq_some_iff.mp H
                obtain ⟨t295, A330, H⟩ := H
                replace H : (some (t295 == 80)) = some r := H
                have A33 := Aside0.mk A330
                clear A330
                obtain rfl := Option.some.inj H
                go_enter Tryz.func10, Tryz.ntmps10
                try go_wp2_with (first | ((with_reducible refine gate_callee (f := 19) rfl ?_); refine goesL_ (some 12) rfl rfl Tryz.func19 (by kernel_rfl) rfl #[.int .i64 1000] rfl (by (try simp only [List.map_toArray, List.map_cons, List.map_nil]); first | done | rfl | (simp only [List.length_drop, List.length_take]; rfl)) ?_; (with_reducible refine (value_Num.calls 1000 t227 t228 _ A1.out).mono ?_); rintro e w34 ⟨rfl, hb⟩; refine ⟨_, rfl, ?_⟩; have n0_ := Aside0.mk (below_step (by repeat (first | (with_reducible first | exact HB.out | apply below_alloc | apply pw_below_drewN | apply below_drew1) | exact HB.out)) hb); clear HB; have HB := n0_; clear n0_; (try clear hb); (try clear hb2); (try clear hk); (try clear hi)) | ((with_reducible refine gate_callee (f := 19) rfl ?_); refine goesL_ (some 13) rfl rfl Tryz.func19 (by kernel_rfl) rfl #[.int .i64 3000] rfl (by (try simp only [List.map_toArray, List.map_cons, List.map_nil]); first | done | rfl | (simp only [List.length_drop, List.length_take]; rfl)) ?_; (with_reducible refine (value_Num.calls 3000 t229 t230 _ A2.out).mono ?_); rintro e w35 ⟨rfl, hb⟩; refine ⟨_, rfl, ?_⟩; have n0_ := Aside0.mk (below_step (by repeat (first | (with_reducible first | exact HB.out | apply below_alloc | apply pw_below_drewN | apply below_drew1) | exact HB.out)) hb); clear HB; have HB := n0_; clear n0_; (try clear hb); (try clear hb2); (try clear hk); (try clear hi)) | ((with_reducible refine gate_dst (N := 14) rfl ?_); (try (refine gate_guard (by rfl) ?_; dsimp only)); refine Kd.R_lit k25 _ 25 ?hg (N := 14) ?hd (xs := ([(⟨t227, t228⟩ : S25), (⟨t229, t230⟩ : S25)] : List (S25))) (inner := [.int .i64 t227, .int .i64 t228, .int .i64 t229, .int .i64 t230]) (ok := fun _ => True) (okp := fun _ => True) ?hr ?hp (fun _ hk => hk) trivial (Below.refl _ _) (Nat.le_refl _) (by simp) ?_; (case hd => rfl); (case hg => rfl); (case hr => first | (go_simp; done) | (go_simp; rfl)); (case hp => exact (Reps.c2 (show Kd.M k25 _ _ _ (⟨t227, t228⟩ : S25) [.int .i64 t227, .int .i64 t228] from (k25_mkM _ _ _ (⟨t227, t228⟩ : S25) )) (Reps.c2 (show Kd.M k25 _ _ _ (⟨t229, t230⟩ : S25) [.int .i64 t229, .int .i64 t230] from (k25_mkM _ _ _ (⟨t229, t230⟩ : S25) )) (Reps.none _ _)))); intro v232 w36 ho37 hb hg_ hnew_; clear hg_ hnew_; (first | rw [← Ny231.out] at ho37 | (simp only [Int.reduceToNat] at ho37; rw [← Ny231.out] at ho37)); have n0_ := Aside0.mk (Kd.R_lower ho37 (below_size (by repeat (first | (with_reducible first | exact HB.out | apply below_alloc | apply pw_below_drewN | apply below_drew1) | exact HB.out)))); have n1_ := Aside0.mk (below_step (by repeat (first | (with_reducible first | exact HB.out | apply below_alloc | apply pw_below_drewN | apply below_drew1) | exact HB.out)) hb); clear HB; have HO233 := n0_; have HB := n1_; clear n0_ n1_; clear hb ho37; obtain ⟨Ao38, co38, eo38⟩ := Kd.R_slice HO233.out; subst eo38) | ((with_reducible refine gate_callee (f := 11) rfl ?_); refine goesL_ (some 15) rfl rfl Tryz.func11 (by kernel_rfl) rfl #[.string (⟨#[47]⟩ : ByteArray), .slice Ao38 y231.length co38] rfl (by (try simp only [List.map_toArray, List.map_cons, List.map_nil]); first | done | rfl | (simp only [List.length_drop, List.length_take]; rfl)) ?_; (with_reducible refine (value_Do.calls (⟨#[47]⟩ : ByteArray) _ _ y231 t234 t235 t236 _ ?side1 ?side2 A3.out).mono ?_); (case side1 => repeat (first | exact (Kd.R_reads' HO233.out).2.2 | (with_reducible refine Kd.C_alloc ?_ _) | (with_reducible refine Kd.C_drewN ?_ _) | (with_reducible refine Kd.C_drew ?_))); (case side2 => exact (Kd.R_reads' HO233.out).2.1); rintro e w39 ⟨rfl, hb⟩; refine ⟨_, rfl, ?_⟩; have n0_ := Aside0.mk (Kd.R_below (by (with_reducible repeat (first | apply Kd.R_alloc | apply Kd.R_drewN | apply Kd.R_drew)); exact HO233.out) hb); have n1_ := Aside0.mk (below_step (by repeat (first | (with_reducible first | exact HB.out | apply below_alloc | apply pw_below_drewN | apply below_drew1) | exact HB.out)) hb); clear HO233; clear HB; have HO233 := n0_; have HB := n1_; clear n0_ n1_; (try clear hb); (try clear hb2); (try clear hk); (try clear hi)) | ((with_reducible refine gate_dst (N := 1) rfl ?_); (try (refine gate_guard (by rfl) ?_; dsimp only)); refine box_event ?hg (N := 1) ?hd (cs := #[.int .i64 0, .int .i64 0]) (t := 25) ?hr ?_; (case hd => rfl); (case hg => rfl); (case hr => first | (go_simp; done) | (go_simp; rfl)); intro gb237 hg w40 hbox hb; have n0_ := Aside0.mk (Kd.R_below (Kd.R_elderB (by (with_reducible repeat (first | apply Kd.R_alloc | apply Kd.R_drewN | apply Kd.R_drew)); exact HO233.out) gb237 (Nat.le_of_eq hg.symm)) hb); have n1_ := Aside0.mk (below_step (by repeat (first | (with_reducible first | exact HB.out | apply below_alloc | apply pw_below_drewN | apply below_drew1) | exact HB.out)) hb); have n2_ := Aside0.mk (hbox); have n3_ := Aside0.mk ((by rw [hg]; exact (below_size (by repeat (first | (with_reducible first | exact HB.out | apply below_alloc | apply pw_below_drewN | apply below_drew1) | exact HB.out))) : w.heap.size ≤ gb237)); have n4_ := Aside0.mk ((by rw [hg]; exact (below_size (by repeat (first | (with_reducible first | exact HB.out | apply below_alloc | apply pw_below_drewN | apply below_drew1) | exact HB.out))) : w.heap.size ≤ gb237)); clear HO233; clear HB; have HO233 := n0_; have HB := n1_; have BK237 := n2_; have GW237 := n3_; have GE237 := n4_; clear n0_ n1_ n2_ n3_ n4_; clear hb hbox hg; have hcz41_0 : w40.cell? ⟨gb237, 0, none⟩ = some (.int .i64 0) := (blk_cell BK237.out 0).trans rfl; have hcz41_1 : w40.cell? ⟨gb237, 1, none⟩ = some (.int .i64 0) := (blk_cell BK237.out 1).trans rfl; have hfz41_0 := blk_frozen BK237.out 0; have hfz41_1 := blk_frozen BK237.out 1) | ((with_reducible refine gate_callee (f := 19) rfl ?_); refine goesL_ (some 19) rfl rfl Tryz.func19 (by kernel_rfl) rfl #[.int .i64 (-1)] rfl (by (try simp only [List.map_toArray, List.map_cons, List.map_nil]); first | done | rfl | (simp only [List.length_drop, List.length_take]; rfl)) ?_; (with_reducible refine (value_Num.calls (-1) t238 t239 _ A4.out).mono ?_); rintro e w42 ⟨rfl, hb⟩; refine ⟨_, rfl, ?_⟩; have n0_ := Aside0.mk (Kd.R_below (by (with_reducible repeat (first | apply Kd.R_alloc | apply Kd.R_drewN | apply Kd.R_drew)); exact (Kd.R_mono (Kd.R_far (p := ⟨gb237, 1, none⟩) (Kd.R_far (p := ⟨gb237, 0, none⟩) (Kd.R_mono HO233.out (fun k_ hk => (⟨hk, hk.2⟩ : _ ∧ k_ ≠ gb237))) (fun _ hk => hk.2) (.int .i64 t234)) (fun _ hk => hk.2) (.int .i64 t235)) (fun _ h_ => h_.1))) hb); have n1_ := Aside0.mk (blk_below (g := gb237) (o := .cells #[.int .i64 t234, .int .i64 t235] 25 (0, 0)) (by (with_reducible repeat (first | refine blk_drewN ?_ _ | refine blk_drew ?_ | refine blk_alloc ?_ _)); refine blk_put (cs := #[.int .i64 t234, .int .i64 0]) ?_ 1 _ rfl; (with_reducible repeat (first | refine blk_drewN ?_ _ | refine blk_drew ?_ | refine blk_alloc ?_ _)); refine blk_put (cs := #[.int .i64 0, .int .i64 0]) ?_ 0 _ rfl; (with_reducible repeat (first | refine blk_drewN ?_ _ | refine blk_drew ?_ | refine blk_alloc ?_ _)); exact BK237.out) hb); have n2_ := Aside0.mk (below_step (by repeat (first | (with_reducible first | exact HB.out | apply below_alloc | apply pw_below_drewN | apply below_drew1 | refine below_set ?_ GE237.out) | exact HB.out)) hb); clear HO233; clear BK237; clear HB; have HO233 := n0_; have BK237 := n1_; have HB := n2_; clear n0_ n1_ n2_; (try clear hb); (try clear hb2); (try clear hk); (try clear hi)) | ((with_reducible refine gate_callee (f := 19) rfl ?_); refine goesL_ (some 20) rfl rfl Tryz.func19 (by kernel_rfl) rfl #[.int .i64 0] rfl (by (try simp only [List.map_toArray, List.map_cons, List.map_nil]); first | done | rfl | (simp only [List.length_drop, List.length_take]; rfl)) ?_; (with_reducible refine (value_Num.calls 0 t240 t241 _ A5.out).mono ?_); rintro e w43 ⟨rfl, hb⟩; refine ⟨_, rfl, ?_⟩; have n0_ := Aside0.mk (Kd.R_below (by (with_reducible repeat (first | apply Kd.R_alloc | apply Kd.R_drewN | apply Kd.R_drew)); exact HO233.out) hb); have n1_ := Aside0.mk (blk_below (g := gb237) (o := .cells #[.int .i64 t234, .int .i64 t235] 25 (0, 0)) (by (with_reducible repeat (first | refine blk_drewN ?_ _ | refine blk_drew ?_ | refine blk_alloc ?_ _)); exact BK237.out) hb); have n2_ := Aside0.mk (below_step (by repeat (first | (with_reducible first | exact HB.out | apply below_alloc | apply pw_below_drewN | apply below_drew1 | refine below_set ?_ GE237.out) | exact HB.out)) hb); clear HO233; clear BK237; clear HB; have HO233 := n0_; have BK237 := n1_; have HB := n2_; clear n0_ n1_ n2_; (try clear hb); (try clear hb2); (try clear hk); (try clear hi)) | ((with_reducible refine gate_dst (N := 21) rfl ?_); (try (refine gate_guard (by rfl) ?_; dsimp only)); refine Kd.R_lit k25 _ 25 ?hg (N := 21) ?hd (xs := ([(⟨t238, t239⟩ : S25), (⟨t240, t241⟩ : S25)] : List (S25))) (inner := [.int .i64 t238, .int .i64 t239, .int .i64 t240, .int .i64 t241]) (ok := fun _ => True) (okp := fun _ => True) ?hr ?hp (fun _ hk => hk) trivial (Below.refl _ _) (Nat.le_refl _) (by simp) ?_; (case hd => rfl); (case hg => rfl); (case hr => first | (go_simp; done) | (go_simp; rfl)); (case hp => exact (Reps.c2 (show Kd.M k25 _ _ _ (⟨t238, t239⟩ : S25) [.int .i64 t238, .int .i64 t239] from (k25_mkM _ _ _ (⟨t238, t239⟩ : S25) )) (Reps.c2 (show Kd.M k25 _ _ _ (⟨t240, t241⟩ : S25) [.int .i64 t240, .int .i64 t241] from (k25_mkM _ _ _ (⟨t240, t241⟩ : S25) )) (Reps.none _ _)))); intro v243 w44 ho45 hb hg_ hnew_; clear hg_ hnew_; (first | rw [← Ny242.out] at ho45 | (simp only [Int.reduceToNat] at ho45; rw [← Ny242.out] at ho45)); have n0_ := Aside0.mk (Kd.R_elder' (by (with_reducible repeat (first | apply Kd.R_alloc | apply Kd.R_drewN | apply Kd.R_drew)); exact HO233.out) (Kd.R_base ho45) hb); have n1_ := Aside0.mk (Kd.R_lower (Kd.R_newB (Kd.R_new' ho45 (Kd.R_lt (by (with_reducible repeat (first | apply Kd.R_alloc | apply Kd.R_drewN | apply Kd.R_drew)); exact HO233.out))) (g := gb237) (o := .cells #[.int .i64 t234, .int .i64 t235] 25 (0, 0)) (by (with_reducible repeat (first | refine blk_drewN ?_ _ | refine blk_drew ?_ | refine blk_alloc ?_ _)); exact BK237.out)) (below_size (by repeat (first | (with_reducible first | exact HB.out | apply below_alloc | apply pw_below_drewN | apply below_drew1 | refine below_set ?_ GE237.out) | exact HB.out)))); have n2_ := Aside0.mk (blk_below (g := gb237) (o := .cells #[.int .i64 t234, .int .i64 t235] 25 (0, 0)) (by (with_reducible repeat (first | refine blk_drewN ?_ _ | refine blk_drew ?_ | refine blk_alloc ?_ _)); exact BK237.out) hb); have n3_ := Aside0.mk (below_step (by repeat (first | (with_reducible first | exact HB.out | apply below_alloc | apply pw_below_drewN | apply below_drew1 | refine below_set ?_ GE237.out) | exact HB.out)) hb); clear HO233; clear BK237; clear HB; have HO233 := n0_; have HO244 := n1_; have BK237 := n2_; have HB := n3_; clear n0_ n1_ n2_ n3_; clear hb ho45; obtain ⟨Ao46, co46, eo46⟩ := Kd.R_slice HO244.out; subst eo46) | ((with_reducible refine gate_callee (f := 11) rfl ?_); refine goesL_ (some 22) rfl rfl Tryz.func11 (by kernel_rfl) rfl #[.string (⟨#[47]⟩ : ByteArray), .slice Ao46 y242.length co46] rfl (by (try simp only [List.map_toArray, List.map_cons, List.map_nil]); first | done | rfl | (simp only [List.length_drop, List.length_take]; rfl)) ?_; (with_reducible refine (value_Do.calls (⟨#[47]⟩ : ByteArray) _ _ y242 t245 t246 t247 _ ?side1 ?side2 A6.out).mono ?_); (case side1 => repeat (first | exact (Kd.R_reads' HO244.out).2.2 | (with_reducible refine Kd.C_alloc ?_ _) | (with_reducible refine Kd.C_drewN ?_ _) | (with_reducible refine Kd.C_drew ?_))); (case side2 => exact (Kd.R_reads' HO244.out).2.1); rintro e w47 ⟨rfl, hb⟩; refine ⟨_, rfl, ?_⟩; have n0_ := Aside0.mk (Kd.R_below (by (with_reducible repeat (first | apply Kd.R_alloc | apply Kd.R_drewN | apply Kd.R_drew)); exact HO233.out) hb); have n1_ := Aside0.mk (Kd.R_below (by (with_reducible repeat (first | apply Kd.R_alloc | apply Kd.R_drewN | apply Kd.R_drew)); exact HO244.out) hb); have n2_ := Aside0.mk (blk_below (g := gb237) (o := .cells #[.int .i64 t234, .int .i64 t235] 25 (0, 0)) (by (with_reducible repeat (first | refine blk_drewN ?_ _ | refine blk_drew ?_ | refine blk_alloc ?_ _)); exact BK237.out) hb); have n3_ := Aside0.mk (below_step (by repeat (first | (with_reducible first | exact HB.out | apply below_alloc | apply pw_below_drewN | apply below_drew1 | refine below_set ?_ GE237.out) | exact HB.out)) hb); clear HO233; clear HO244; clear BK237; clear HB; have HO233 := n0_; have HO244 := n1_; have BK237 := n2_; have HB := n3_; clear n0_ n1_ n2_ n3_; (try clear hb); (try clear hb2); (try clear hk); (try clear hi)) | ((with_reducible refine gate_dst (N := 3) rfl ?_); (try (refine gate_guard (by rfl) ?_; dsimp only)); refine box_event ?hg (N := 3) ?hd (cs := #[.int .i64 0, .int .i64 0]) (t := 25) ?hr ?_; (case hd => rfl); (case hg => rfl); (case hr => first | (go_simp; done) | (go_simp; rfl)); intro gb248 hg w48 hbox hb; have n0_ := Aside0.mk (Kd.R_below (Kd.R_elderB (by (with_reducible repeat (first | apply Kd.R_alloc | apply Kd.R_drewN | apply Kd.R_drew)); exact HO233.out) gb248 (Nat.le_of_eq hg.symm)) hb); have n1_ := Aside0.mk (Kd.R_below (Kd.R_elderB (by (with_reducible repeat (first | apply Kd.R_alloc | apply Kd.R_drewN | apply Kd.R_drew)); exact HO244.out) gb248 (Nat.le_of_eq hg.symm)) hb); have n2_ := Aside0.mk (blk_below (g := gb237) (o := .cells #[.int .i64 t234, .int .i64 t235] 25 (0, 0)) (by (with_reducible repeat (first | refine blk_drewN ?_ _ | refine blk_drew ?_ | refine blk_alloc ?_ _)); exact BK237.out) hb); have n3_ := Aside0.mk (below_step (by repeat (first | (with_reducible first | exact HB.out | apply below_alloc | apply pw_below_drewN | apply below_drew1 | refine below_set ?_ GE237.out) | exact HB.out)) hb); have n4_ := Aside0.mk (hbox); have n5_ := Aside0.mk ((by rw [hg]; exact (below_size (by repeat (first | (with_reducible first | exact HB.out | apply below_alloc | apply pw_below_drewN | apply below_drew1 | refine below_set ?_ GE237.out) | exact HB.out))) : w.heap.size ≤ gb248)); have n6_ := Aside0.mk ((by rw [hg]; exact (below_size (by repeat (first | (with_reducible first | exact HB.out | apply below_alloc | apply pw_below_drewN | apply below_drew1 | refine below_set ?_ GE237.out) | exact HB.out))) : w.heap.size ≤ gb248)); have n7_ := Aside0.mk ((by rw [hg]; exact Nat.ne_of_lt (blk_lt (g := gb237) (o := .cells #[.int .i64 t234, .int .i64 t235] 25 (0, 0)) (by (with_reducible repeat (first | refine blk_drewN ?_ _ | refine blk_drew ?_ | refine blk_alloc ?_ _)); exact BK237.out)) : gb237 ≠ gb248)); have n8_ := Aside0.mk ((by rw [hg]; exact Nat.ne_of_gt (blk_lt (g := gb237) (o := .cells #[.int .i64 t234, .int .i64 t235] 25 (0, 0)) (by (with_reducible repeat (first | refine blk_drewN ?_ _ | refine blk_drew ?_ | refine blk_alloc ?_ _)); exact BK237.out)) : gb248 ≠ gb237)); clear HO233; clear HO244; clear BK237; clear HB; have HO233 := n0_; have HO244 := n1_; have BK237 := n2_; have HB := n3_; have BK248 := n4_; have GW248 := n5_; have GE248 := n6_; have NB237_248 := n7_; have NB248_237 := n8_; clear n0_ n1_ n2_ n3_ n4_ n5_ n6_ n7_ n8_; clear hb hbox hg; have hnb49 := NB248_237.out; have hnc49 := NB237_248.out; have hcz50_0 : w48.cell? ⟨gb248, 0, none⟩ = some (.int .i64 0) := (blk_cell BK248.out 0).trans rfl; have hcz50_1 : w48.cell? ⟨gb248, 1, none⟩ = some (.int .i64 0) := (blk_cell BK248.out 1).trans rfl; have hfz50_0 := blk_frozen BK248.out 0; have hfz50_1 := blk_frozen BK248.out 1) | ((with_reducible refine gate_callee (f := 23) rfl ?_); refine goesL_ (some 26) rfl rfl Tryz.func23 (by kernel_rfl) rfl #[] rfl (by (try simp only [List.map_toArray, List.map_cons, List.map_nil]); first | done | rfl | (simp only [List.length_drop, List.length_take]; rfl)) ?_; (with_reducible refine (value_Null.calls  t249 t250 _ A7.out).mono ?_); rintro e w51 ⟨rfl, hb⟩; refine ⟨_, rfl, ?_⟩; have n0_ := Aside0.mk (Kd.R_below (by (with_reducible repeat (first | apply Kd.R_alloc | apply Kd.R_drewN | apply Kd.R_drew)); exact (Kd.R_mono (Kd.R_far (p := ⟨gb248, 1, none⟩) (Kd.R_far (p := ⟨gb248, 0, none⟩) (Kd.R_mono HO233.out (fun k_ hk => (⟨hk, hk.2⟩ : _ ∧ k_ ≠ gb248))) (fun _ hk => hk.2) (.int .i64 t245)) (fun _ hk => hk.2) (.int .i64 t246)) (fun _ h_ => h_.1))) hb); have n1_ := Aside0.mk (Kd.R_below (by (with_reducible repeat (first | apply Kd.R_alloc | apply Kd.R_drewN | apply Kd.R_drew)); exact (Kd.R_mono (Kd.R_far (p := ⟨gb248, 1, none⟩) (Kd.R_far (p := ⟨gb248, 0, none⟩) (Kd.R_mono HO244.out (fun k_ hk => (⟨hk, hk.2⟩ : _ ∧ k_ ≠ gb248))) (fun _ hk => hk.2) (.int .i64 t245)) (fun _ hk => hk.2) (.int .i64 t246)) (fun _ h_ => h_.1))) hb); have n2_ := Aside0.mk (blk_below (g := gb237) (o := .cells #[.int .i64 t234, .int .i64 t235] 25 (0, 0)) (by (with_reducible repeat (first | refine blk_drewN ?_ _ | refine blk_drew ?_ | refine blk_alloc ?_ _)); refine blk_far ?_ NB237_248.out _; (with_reducible repeat (first | refine blk_drewN ?_ _ | refine blk_drew ?_ | refine blk_alloc ?_ _)); refine blk_far ?_ NB237_248.out _; (with_reducible repeat (first | refine blk_drewN ?_ _ | refine blk_drew ?_ | refine blk_alloc ?_ _)); exact BK237.out) hb); have n3_ := Aside0.mk (blk_below (g := gb248) (o := .cells #[.int .i64 t245, .int .i64 t246] 25 (0, 0)) (by (with_reducible repeat (first | refine blk_drewN ?_ _ | refine blk_drew ?_ | refine blk_alloc ?_ _)); refine blk_put (cs := #[.int .i64 t245, .int .i64 0]) ?_ 1 _ rfl; (with_reducible repeat (first | refine blk_drewN ?_ _ | refine blk_drew ?_ | refine blk_alloc ?_ _)); refine blk_put (cs := #[.int .i64 0, .int .i64 0]) ?_ 0 _ rfl; (with_reducible repeat (first | refine blk_drewN ?_ _ | refine blk_drew ?_ | refine blk_alloc ?_ _)); exact BK248.out) hb); have n4_ := Aside0.mk (below_step (by repeat (first | (with_reducible first | exact HB.out | apply below_alloc | apply pw_below_drewN | apply below_drew1 | refine below_set ?_ GE237.out | refine below_set ?_ GE248.out) | exact HB.out)) hb); clear HO233; clear HO244; clear BK237; clear BK248; clear HB; have HO233 := n0_; have HO244 := n1_; have BK237 := n2_; have BK248 := n3_; have HB := n4_; clear n0_ n1_ n2_ n3_ n4_; (try clear hb); (try clear hb2); (try clear hk); (try clear hi)) | ((with_reducible refine gate_callee (f := 19) rfl ?_); refine goesL_ (some 27) rfl rfl Tryz.func19 (by kernel_rfl) rfl #[.int .i64 1] rfl (by (try simp only [List.map_toArray, List.map_cons, List.map_nil]); first | done | rfl | (simp only [List.length_drop, List.length_take]; rfl)) ?_; (with_reducible refine (value_Num.calls 1 t251 t252 _ A8.out).mono ?_); rintro e w52 ⟨rfl, hb⟩; refine ⟨_, rfl, ?_⟩; have n0_ := Aside0.mk (Kd.R_below (by (with_reducible repeat (first | apply Kd.R_alloc | apply Kd.R_drewN | apply Kd.R_drew)); exact HO233.out) hb); have n1_ := Aside0.mk (Kd.R_below (by (with_reducible repeat (first | apply Kd.R_alloc | apply Kd.R_drewN | apply Kd.R_drew)); exact HO244.out) hb); have n2_ := Aside0.mk (blk_below (g := gb237) (o := .cells #[.int .i64 t234, .int .i64 t235] 25 (0, 0)) (by (with_reducible repeat (first | refine blk_drewN ?_ _ | refine blk_drew ?_ | refine blk_alloc ?_ _)); exact BK237.out) hb); have n3_ := Aside0.mk (blk_below (g := gb248) (o := .cells #[.int .i64 t245, .int .i64 t246] 25 (0, 0)) (by (with_reducible repeat (first | refine blk_drewN ?_ _ | refine blk_drew ?_ | refine blk_alloc ?_ _)); exact BK248.out) hb); have n4_ := Aside0.mk (below_step (by repeat (first | (with_reducible first | exact HB.out | apply below_alloc | apply pw_below_drewN | apply below_drew1 | refine below_set ?_ GE237.out | refine below_set ?_ GE248.out) | exact HB.out)) hb); clear HO233; clear HO244; clear BK237; clear BK248; clear HB; have HO233 := n0_; have HO244 := n1_; have BK237 := n2_; have BK248 := n3_; have HB := n4_; clear n0_ n1_ n2_ n3_ n4_; (try clear hb); (try clear hb2); (try clear hk); (try clear hi)) | ((with_reducible refine gate_dst (N := 28) rfl ?_); (try (refine gate_guard (by rfl) ?_; dsimp only)); refine Kd.R_lit k25 _ 25 ?hg (N := 28) ?hd (xs := ([(⟨t249, t250⟩ : S25), (⟨t251, t252⟩ : S25)] : List (S25))) (inner := [.int .i64 t249, .int .i64 t250, .int .i64 t251, .int .i64 t252]) (ok := fun _ => True) (okp := fun _ => True) ?hr ?hp (fun _ hk => hk) trivial (Below.refl _ _) (Nat.le_refl _) (by simp) ?_; (case hd => rfl); (case hg => rfl); (case hr => first | (go_simp; done) | (go_simp; rfl)); (case hp => exact (Reps.c2 (show Kd.M k25 _ _ _ (⟨t249, t250⟩ : S25) [.int .i64 t249, .int .i64 t250] from (k25_mkM _ _ _ (⟨t249, t250⟩ : S25) )) (Reps.c2 (show Kd.M k25 _ _ _ (⟨t251, t252⟩ : S25) [.int .i64 t251, .int .i64 t252] from (k25_mkM _ _ _ (⟨t251, t252⟩ : S25) )) (Reps.none _ _)))); intro v254 w53 ho54 hb hg_ hnew_; clear hg_ hnew_; (first | rw [← Ny253.out] at ho54 | (simp only [Int.reduceToNat] at ho54; rw [← Ny253.out] at ho54)); have n0_ := Aside0.mk (Kd.R_elder' (by (with_reducible repeat (first | apply Kd.R_alloc | apply Kd.R_drewN | apply Kd.R_drew)); exact HO233.out) (Kd.R_base ho54) hb); have n1_ := Aside0.mk (Kd.R_elder' (by (with_reducible repeat (first | apply Kd.R_alloc | apply Kd.R_drewN | apply Kd.R_drew)); exact HO244.out) (Kd.R_base ho54) hb); have n2_ := Aside0.mk (Kd.R_lower (Kd.R_newB (Kd.R_newB (Kd.R_new' (Kd.R_new' ho54 (Kd.R_lt (by (with_reducible repeat (first | apply Kd.R_alloc | apply Kd.R_drewN | apply Kd.R_drew)); exact HO233.out))) (Kd.R_lt (by (with_reducible repeat (first | apply Kd.R_alloc | apply Kd.R_drewN | apply Kd.R_drew)); exact HO244.out))) (g := gb237) (o := .cells #[.int .i64 t234, .int .i64 t235] 25 (0, 0)) (by (with_reducible repeat (first | refine blk_drewN ?_ _ | refine blk_drew ?_ | refine blk_alloc ?_ _)); exact BK237.out)) (g := gb248) (o := .cells #[.int .i64 t245, .int .i64 t246] 25 (0, 0)) (by (with_reducible repeat (first | refine blk_drewN ?_ _ | refine blk_drew ?_ | refine blk_alloc ?_ _)); exact BK248.out)) (below_size (by repeat (first | (with_reducible first | exact HB.out | apply below_alloc | apply pw_below_drewN | apply below_drew1 | refine below_set ?_ GE237.out | refine below_set ?_ GE248.out) | exact HB.out)))); have n3_ := Aside0.mk (blk_below (g := gb237) (o := .cells #[.int .i64 t234, .int .i64 t235] 25 (0, 0)) (by (with_reducible repeat (first | refine blk_drewN ?_ _ | refine blk_drew ?_ | refine blk_alloc ?_ _)); exact BK237.out) hb); have n4_ := Aside0.mk (blk_below (g := gb248) (o := .cells #[.int .i64 t245, .int .i64 t246] 25 (0, 0)) (by (with_reducible repeat (first | refine blk_drewN ?_ _ | refine blk_drew ?_ | refine blk_alloc ?_ _)); exact BK248.out) hb); have n5_ := Aside0.mk (below_step (by repeat (first | (with_reducible first | exact HB.out | apply below_alloc | apply pw_below_drewN | apply below_drew1 | refine below_set ?_ GE237.out | refine below_set ?_ GE248.out) | exact HB.out)) hb); clear HO233; clear HO244; clear BK237; clear BK248; clear HB; have HO233 := n0_; have HO244 := n1_; have HO255 := n2_; have BK237 := n3_; have BK248 := n4_; have HB := n5_; clear n0_ n1_ n2_ n3_ n4_ n5_; clear hb ho54; obtain ⟨Ao55, co55, eo55⟩ := Kd.R_slice HO255.out; subst eo55) | ((with_reducible refine gate_callee (f := 11) rfl ?_); refine goesL_ (some 29) rfl rfl Tryz.func11 (by kernel_rfl) rfl #[.string (⟨#[62]⟩ : ByteArray), .slice Ao55 y253.length co55] rfl (by (try simp only [List.map_toArray, List.map_cons, List.map_nil]); first | done | rfl | (simp only [List.length_drop, List.length_take]; rfl)) ?_; (with_reducible refine (value_Do.calls (⟨#[62]⟩ : ByteArray) _ _ y253 t256 t257 t258 _ ?side1 ?side2 A9.out).mono ?_); (case side1 => repeat (first | exact (Kd.R_reads' HO255.out).2.2 | (with_reducible refine Kd.C_alloc ?_ _) | (with_reducible refine Kd.C_drewN ?_ _) | (with_reducible refine Kd.C_drew ?_))); (case side2 => exact (Kd.R_reads' HO255.out).2.1); rintro e w56 ⟨rfl, hb⟩; refine ⟨_, rfl, ?_⟩; have n0_ := Aside0.mk (Kd.R_below (by (with_reducible repeat (first | apply Kd.R_alloc | apply Kd.R_drewN | apply Kd.R_drew)); exact HO233.out) hb); have n1_ := Aside0.mk (Kd.R_below (by (with_reducible repeat (first | apply Kd.R_alloc | apply Kd.R_drewN | apply Kd.R_drew)); exact HO244.out) hb); have n2_ := Aside0.mk (Kd.R_below (by (with_reducible repeat (first | apply Kd.R_alloc | apply Kd.R_drewN | apply Kd.R_drew)); exact HO255.out) hb); have n3_ := Aside0.mk (blk_below (g := gb237) (o := .cells #[.int .i64 t234, .int .i64 t235] 25 (0, 0)) (by (with_reducible repeat (first | refine blk_drewN ?_ _ | refine blk_drew ?_ | refine blk_alloc ?_ _)); exact BK237.out) hb); have n4_ := Aside0.mk (blk_below (g := gb248) (o := .cells #[.int .i64 t245, .int .i64 t246] 25 (0, 0)) (by (with_reducible repeat (first | refine blk_drewN ?_ _ | refine blk_drew ?_ | refine blk_alloc ?_ _)); exact BK248.out) hb); have n5_ := Aside0.mk (below_step (by repeat (first | (with_reducible first | exact HB.out | apply below_alloc | apply pw_below_drewN | apply below_drew1 | refine below_set ?_ GE237.out | refine below_set ?_ GE248.out) | exact HB.out)) hb); clear HO233; clear HO244; clear HO255; clear BK237; clear BK248; clear HB; have HO233 := n0_; have HO244 := n1_; have HO255 := n2_; have BK237 := n3_; have BK248 := n4_; have HB := n5_; clear n0_ n1_ n2_ n3_ n4_ n5_; (try clear hb); (try clear hb2); (try clear hk); (try clear hi)) | ((with_reducible refine gate_dst (N := 5) rfl ?_); (try (refine gate_guard (by rfl) ?_; dsimp only)); refine box_event ?hg (N := 5) ?hd (cs := #[.int .i64 0, .int .i64 0]) (t := 25) ?hr ?_; (case hd => rfl); (case hg => rfl); (case hr => first | (go_simp; done) | (go_simp; rfl)); intro gb259 hg w57 hbox hb; have n0_ := Aside0.mk (Kd.R_below (Kd.R_elderB (by (with_reducible repeat (first | apply Kd.R_alloc | apply Kd.R_drewN | apply Kd.R_drew)); exact HO233.out) gb259 (Nat.le_of_eq hg.symm)) hb); have n1_ := Aside0.mk (Kd.R_below (Kd.R_elderB (by (with_reducible repeat (first | apply Kd.R_alloc | apply Kd.R_drewN | apply Kd.R_drew)); exact HO244.out) gb259 (Nat.le_of_eq hg.symm)) hb); have n2_ := Aside0.mk (Kd.R_below (Kd.R_elderB (by (with_reducible repeat (first | apply Kd.R_alloc | apply Kd.R_drewN | apply Kd.R_drew)); exact HO255.out) gb259 (Nat.le_of_eq hg.symm)) hb); have n3_ := Aside0.mk (blk_below (g := gb237) (o := .cells #[.int .i64 t234, .int .i64 t235] 25 (0, 0)) (by (with_reducible repeat (first | refine blk_drewN ?_ _ | refine blk_drew ?_ | refine blk_alloc ?_ _)); exact BK237.out) hb); have n4_ := Aside0.mk (blk_below (g := gb248) (o := .cells #[.int .i64 t245, .int .i64 t246] 25 (0, 0)) (by (with_reducible repeat (first | refine blk_drewN ?_ _ | refine blk_drew ?_ | refine blk_alloc ?_ _)); exact BK248.out) hb); have n5_ := Aside0.mk (below_step (by repeat (first | (with_reducible first | exact HB.out | apply below_alloc | apply pw_below_drewN | apply below_drew1 | refine below_set ?_ GE237.out | refine below_set ?_ GE248.out) | exact HB.out)) hb); have n6_ := Aside0.mk (hbox); have n7_ := Aside0.mk ((by rw [hg]; exact (below_size (by repeat (first | (with_reducible first | exact HB.out | apply below_alloc | apply pw_below_drewN | apply below_drew1 | refine below_set ?_ GE237.out | refine below_set ?_ GE248.out) | exact HB.out))) : w.heap.size ≤ gb259)); have n8_ := Aside0.mk ((by rw [hg]; exact (below_size (by repeat (first | (with_reducible first | exact HB.out | apply below_alloc | apply pw_below_drewN | apply below_drew1 | refine below_set ?_ GE237.out | refine below_set ?_ GE248.out) | exact HB.out))) : w.heap.size ≤ gb259)); have n9_ := Aside0.mk ((by rw [hg]; exact Nat.ne_of_lt (blk_lt (g := gb237) (o := .cells #[.int .i64 t234, .int .i64 t235] 25 (0, 0)) (by (with_reducible repeat (first | refine blk_drewN ?_ _ | refine blk_drew ?_ | refine blk_alloc ?_ _)); exact BK237.out)) : gb237 ≠ gb259)); have n10_ := Aside0.mk ((by rw [hg]; exact Nat.ne_of_gt (blk_lt (g := gb237) (o := .cells #[.int .i64 t234, .int .i64 t235] 25 (0, 0)) (by (with_reducible repeat (first | refine blk_drewN ?_ _ | refine blk_drew ?_ | refine blk_alloc ?_ _)); exact BK237.out)) : gb259 ≠ gb237)); have n11_ := Aside0.mk ((by rw [hg]; exact Nat.ne_of_lt (blk_lt (g := gb248) (o := .cells #[.int .i64 t245, .int .i64 t246] 25 (0, 0)) (by (with_reducible repeat (first | refine blk_drewN ?_ _ | refine blk_drew ?_ | refine blk_alloc ?_ _)); exact BK248.out)) : gb248 ≠ gb259)); have n12_ := Aside0.mk ((by rw [hg]; exact Nat.ne_of_gt (blk_lt (g := gb248) (o := .cells #[.int .i64 t245, .int .i64 t246] 25 (0, 0)) (by (with_reducible repeat (first | refine blk_drewN ?_ _ | refine blk_drew ?_ | refine blk_alloc ?_ _)); exact BK248.out)) : gb259 ≠ gb248)); clear HO233; clear HO244; clear HO255; clear BK237; clear BK248; clear HB; have HO233 := n0_; have HO244 := n1_; have HO255 := n2_; have BK237 := n3_; have BK248 := n4_; have HB := n5_; have BK259 := n6_; have GW259 := n7_; have GE259 := n8_; have NB237_259 := n9_; have NB259_237 := n10_; have NB248_259 := n11_; have NB259_248 := n12_; clear n0_ n1_ n2_ n3_ n4_ n5_ n6_ n7_ n8_ n9_ n10_ n11_ n12_; clear hb hbox hg; have hnb58 := NB259_237.out; have hnc58 := NB237_259.out; have hnb59 := NB259_248.out; have hnc59 := NB248_259.out; have hcz60_0 : w57.cell? ⟨gb259, 0, none⟩ = some (.int .i64 0) := (blk_cell BK259.out 0).trans rfl; have hcz60_1 : w57.cell? ⟨gb259, 1, none⟩ = some (.int .i64 0) := (blk_cell BK259.out 1).trans rfl; have hfz60_0 := blk_frozen BK259.out 0; have hfz60_1 := blk_frozen BK259.out 1) | ((with_reducible refine gate_callee (f := 25) rfl ?_); refine goesL_ (some 33) rfl rfl Tryz.func25 (by kernel_rfl) rfl #[] rfl (by (try simp only [List.map_toArray, List.map_cons, List.map_nil]); first | done | rfl | (simp only [List.length_drop, List.length_take]; rfl)) ?_; (with_reducible refine (value_NaN.calls  t260 t261 _ A10.out).mono ?_); rintro e w61 ⟨rfl, hb⟩; refine ⟨_, rfl, ?_⟩; have n0_ := Aside0.mk (Kd.R_below (by (with_reducible repeat (first | apply Kd.R_alloc | apply Kd.R_drewN | apply Kd.R_drew)); exact (Kd.R_mono (Kd.R_far (p := ⟨gb259, 1, none⟩) (Kd.R_far (p := ⟨gb259, 0, none⟩) (Kd.R_mono HO233.out (fun k_ hk => (⟨hk, hk.2⟩ : _ ∧ k_ ≠ gb259))) (fun _ hk => hk.2) (.int .i64 t256)) (fun _ hk => hk.2) (.int .i64 t257)) (fun _ h_ => h_.1))) hb); have n1_ := Aside0.mk (Kd.R_below (by (with_reducible repeat (first | apply Kd.R_alloc | apply Kd.R_drewN | apply Kd.R_drew)); exact (Kd.R_mono (Kd.R_far (p := ⟨gb259, 1, none⟩) (Kd.R_far (p := ⟨gb259, 0, none⟩) (Kd.R_mono HO244.out (fun k_ hk => (⟨hk, hk.2⟩ : _ ∧ k_ ≠ gb259))) (fun _ hk => hk.2) (.int .i64 t256)) (fun _ hk => hk.2) (.int .i64 t257)) (fun _ h_ => h_.1))) hb); have n2_ := Aside0.mk (Kd.R_below (by (with_reducible repeat (first | apply Kd.R_alloc | apply Kd.R_drewN | apply Kd.R_drew)); exact (Kd.R_mono (Kd.R_far (p := ⟨gb259, 1, none⟩) (Kd.R_far (p := ⟨gb259, 0, none⟩) (Kd.R_mono HO255.out (fun k_ hk => (⟨hk, hk.2⟩ : _ ∧ k_ ≠ gb259))) (fun _ hk => hk.2) (.int .i64 t256)) (fun _ hk => hk.2) (.int .i64 t257)) (fun _ h_ => h_.1))) hb); have n3_ := Aside0.mk (blk_below (g := gb237) (o := .cells #[.int .i64 t234, .int .i64 t235] 25 (0, 0)) (by (with_reducible repeat (first | refine blk_drewN ?_ _ | refine blk_drew ?_ | refine blk_alloc ?_ _)); refine blk_far ?_ NB237_259.out _; (with_reducible repeat (first | refine blk_drewN ?_ _ | refine blk_drew ?_ | refine blk_alloc ?_ _)); refine blk_far ?_ NB237_259.out _; (with_reducible repeat (first | refine blk_drewN ?_ _ | refine blk_drew ?_ | refine blk_alloc ?_ _)); exact BK237.out) hb); have n4_ := Aside0.mk (blk_below (g := gb248) (o := .cells #[.int .i64 t245, .int .i64 t246] 25 (0, 0)) (by (with_reducible repeat (first | refine blk_drewN ?_ _ | refine blk_drew ?_ | refine blk_alloc ?_ _)); refine blk_far ?_ NB248_259.out _; (with_reducible repeat (first | refine blk_drewN ?_ _ | refine blk_drew ?_ | refine blk_alloc ?_ _)); refine blk_far ?_ NB248_259.out _; (with_reducible repeat (first | refine blk_drewN ?_ _ | refine blk_drew ?_ | refine blk_alloc ?_ _)); exact BK248.out) hb); have n5_ := Aside0.mk (blk_below (g := gb259) (o := .cells #[.int .i64 t256, .int .i64 t257] 25 (0, 0)) (by (with_reducible repeat (first | refine blk_drewN ?_ _ | refine blk_drew ?_ | refine blk_alloc ?_ _)); refine blk_put (cs := #[.int .i64 t256, .int .i64 0]) ?_ 1 _ rfl; (with_reducible repeat (first | refine blk_drewN ?_ _ | refine blk_drew ?_ | refine blk_alloc ?_ _)); refine blk_put (cs := #[.int .i64 0, .int .i64 0]) ?_ 0 _ rfl; (with_reducible repeat (first | refine blk_drewN ?_ _ | refine blk_drew ?_ | refine blk_alloc ?_ _)); exact BK259.out) hb); have n6_ := Aside0.mk (below_step (by repeat (first | (with_reducible first | exact HB.out | apply below_alloc | apply pw_below_drewN | apply below_drew1 | refine below_set ?_ GE237.out | refine below_set ?_ GE248.out | refine below_set ?_ GE259.out) | exact HB.out)) hb); clear HO233; clear HO244; clear HO255; clear BK237; clear BK248; clear BK259; clear HB; have HO233 := n0_; have HO244 := n1_; have HO255 := n2_; have BK237 := n3_; have BK248 := n4_; have BK259 := n5_; have HB := n6_; clear n0_ n1_ n2_ n3_ n4_ n5_ n6_; (try clear hb); (try clear hb2); (try clear hk); (try clear hi)) | ((with_reducible refine gate_callee (f := 25) rfl ?_); refine goesL_ (some 34) rfl rfl Tryz.func25 (by kernel_rfl) rfl #[] rfl (by (try simp only [List.map_toArray, List.map_cons, List.map_nil]); first | done | rfl | (simp only [List.length_drop, List.length_take]; rfl)) ?_; (with_reducible refine (value_NaN.calls  t262 t263 _ A11.out).mono ?_); rintro e w62 ⟨rfl, hb⟩; refine ⟨_, rfl, ?_⟩; have n0_ := Aside0.mk (Kd.R_below (by (with_reducible repeat (first | apply Kd.R_alloc | apply Kd.R_drewN | apply Kd.R_drew)); exact HO233.out) hb); have n1_ := Aside0.mk (Kd.R_below (by (with_reducible repeat (first | apply Kd.R_alloc | apply Kd.R_drewN | apply Kd.R_drew)); exact HO244.out) hb); have n2_ := Aside0.mk (Kd.R_below (by (with_reducible repeat (first | apply Kd.R_alloc | apply Kd.R_drewN | apply Kd.R_drew)); exact HO255.out) hb); have n3_ := Aside0.mk (blk_below (g := gb237) (o := .cells #[.int .i64 t234, .int .i64 t235] 25 (0, 0)) (by (with_reducible repeat (first | refine blk_drewN ?_ _ | refine blk_drew ?_ | refine blk_alloc ?_ _)); exact BK237.out) hb); have n4_ := Aside0.mk (blk_below (g := gb248) (o := .cells #[.int .i64 t245, .int .i64 t246] 25 (0, 0)) (by (with_reducible repeat (first | refine blk_drewN ?_ _ | refine blk_drew ?_ | refine blk_alloc ?_ _)); exact BK248.out) hb); have n5_ := Aside0.mk (blk_below (g := gb259) (o := .cells #[.int .i64 t256, .int .i64 t257] 25 (0, 0)) (by (with_reducible repeat (first | refine blk_drewN ?_ _ | refine blk_drew ?_ | refine blk_alloc ?_ _)); exact BK259.out) hb); have n6_ := Aside0.mk (below_step (by repeat (first | (with_reducible first | exact HB.out | apply below_alloc | apply pw_below_drewN | apply below_drew1 | refine below_set ?_ GE237.out | refine below_set ?_ GE248.out | refine below_set ?_ GE259.out) | exact HB.out)) hb); clear HO233; clear HO244; clear HO255; clear BK237; clear BK248; clear BK259; clear HB; have HO233 := n0_; have HO244 := n1_; have HO255 := n2_; have BK237 := n3_; have BK248 := n4_; have BK259 := n5_; have HB := n6_; clear n0_ n1_ n2_ n3_ n4_ n5_ n6_; (try clear hb); (try clear hb2); (try clear hk); (try clear hi)) | ((with_reducible refine gate_dst (N := 35) rfl ?_); (try (refine gate_guard (by rfl) ?_; dsimp only)); refine Kd.R_lit k25 _ 25 ?hg (N := 35) ?hd (xs := ([(⟨t260, t261⟩ : S25), (⟨t262, t263⟩ : S25)] : List (S25))) (inner := [.int .i64 t260, .int .i64 t261, .int .i64 t262, .int .i64 t263]) (ok := fun _ => True) (okp := fun _ => True) ?hr ?hp (fun _ hk => hk) trivial (Below.refl _ _) (Nat.le_refl _) (by simp) ?_; (case hd => rfl); (case hg => rfl); (case hr => first | (go_simp; done) | (go_simp; rfl)); (case hp => exact (Reps.c2 (show Kd.M k25 _ _ _ (⟨t260, t261⟩ : S25) [.int .i64 t260, .int .i64 t261] from (k25_mkM _ _ _ (⟨t260, t261⟩ : S25) )) (Reps.c2 (show Kd.M k25 _ _ _ (⟨t262, t263⟩ : S25) [.int .i64 t262, .int .i64 t263] from (k25_mkM _ _ _ (⟨t262, t263⟩ : S25) )) (Reps.none _ _)))); intro v265 w63 ho64 hb hg_ hnew_; clear hg_ hnew_; (first | rw [← Ny264.out] at ho64 | (simp only [Int.reduceToNat] at ho64; rw [← Ny264.out] at ho64)); have n0_ := Aside0.mk (Kd.R_elder' (by (with_reducible repeat (first | apply Kd.R_alloc | apply Kd.R_drewN | apply Kd.R_drew)); exact HO233.out) (Kd.R_base ho64) hb); have n1_ := Aside0.mk (Kd.R_elder' (by (with_reducible repeat (first | apply Kd.R_alloc | apply Kd.R_drewN | apply Kd.R_drew)); exact HO244.out) (Kd.R_base ho64) hb); have n2_ := Aside0.mk (Kd.R_elder' (by (with_reducible repeat (first | apply Kd.R_alloc | apply Kd.R_drewN | apply Kd.R_drew)); exact HO255.out) (Kd.R_base ho64) hb); have n3_ := Aside0.mk (Kd.R_lower (Kd.R_newB (Kd.R_newB (Kd.R_newB (Kd.R_new' (Kd.R_new' (Kd.R_new' ho64 (Kd.R_lt (by (with_reducible repeat (first | apply Kd.R_alloc | apply Kd.R_drewN | apply Kd.R_drew)); exact HO233.out))) (Kd.R_lt (by (with_reducible repeat (first | apply Kd.R_alloc | apply Kd.R_drewN | apply Kd.R_drew)); exact HO244.out))) (Kd.R_lt (by (with_reducible repeat (first | apply Kd.R_alloc | apply Kd.R_drewN | apply Kd.R_drew)); exact HO255.out))) (g := gb237) (o := .cells #[.int .i64 t234, .int .i64 t235] 25 (0, 0)) (by (with_reducible repeat (first | refine blk_drewN ?_ _ | refine blk_drew ?_ | refine blk_alloc ?_ _)); exact BK237.out)) (g := gb248) (o := .cells #[.int .i64 t245, .int .i64 t246] 25 (0, 0)) (by (with_reducible repeat (first | refine blk_drewN ?_ _ | refine blk_drew ?_ | refine blk_alloc ?_ _)); exact BK248.out)) (g := gb259) (o := .cells #[.int .i64 t256, .int .i64 t257] 25 (0, 0)) (by (with_reducible repeat (first | refine blk_drewN ?_ _ | refine blk_drew ?_ | refine blk_alloc ?_ _)); exact BK259.out)) (below_size (by repeat (first | (with_reducible first | exact HB.out | apply below_alloc | apply pw_below_drewN | apply below_drew1 | refine below_set ?_ GE237.out | refine below_set ?_ GE248.out | refine below_set ?_ GE259.out) | exact HB.out)))); have n4_ := Aside0.mk (blk_below (g := gb237) (o := .cells #[.int .i64 t234, .int .i64 t235] 25 (0, 0)) (by (with_reducible repeat (first | refine blk_drewN ?_ _ | refine blk_drew ?_ | refine blk_alloc ?_ _)); exact BK237.out) hb); have n5_ := Aside0.mk (blk_below (g := gb248) (o := .cells #[.int .i64 t245, .int .i64 t246] 25 (0, 0)) (by (with_reducible repeat (first | refine blk_drewN ?_ _ | refine blk_drew ?_ | refine blk_alloc ?_ _)); exact BK248.out) hb); have n6_ := Aside0.mk (blk_below (g := gb259) (o := .cells #[.int .i64 t256, .int .i64 t257] 25 (0, 0)) (by (with_reducible repeat (first | refine blk_drewN ?_ _ | refine blk_drew ?_ | refine blk_alloc ?_ _)); exact BK259.out) hb); have n7_ := Aside0.mk (below_step (by repeat (first | (with_reducible first | exact HB.out | apply below_alloc | apply pw_below_drewN | apply below_drew1 | refine below_set ?_ GE237.out | refine below_set ?_ GE248.out | refine below_set ?_ GE259.out) | exact HB.out)) hb); clear HO233; clear HO244; clear HO255; clear BK237; clear BK248; clear BK259; clear HB; have HO233 := n0_; have HO244 := n1_; have HO255 := n2_; have HO266 := n3_; have BK237 := n4_; have BK248 := n5_; have BK259 := n6_; have HB := n7_; clear n0_ n1_ n2_ n3_ n4_ n5_ n6_ n7_; clear hb ho64; obtain ⟨Ao65, co65, eo65⟩ := Kd.R_slice HO266.out; subst eo65) | ((with_reducible refine gate_callee (f := 11) rfl ?_); refine goesL_ (some 36) rfl rfl Tryz.func11 (by kernel_rfl) rfl #[.string (⟨#[33, 61]⟩ : ByteArray), .slice Ao65 y264.length co65] rfl (by (try simp only [List.map_toArray, List.map_cons, List.map_nil]); first | done | rfl | (simp only [List.length_drop, List.length_take]; rfl)) ?_; (with_reducible refine (value_Do.calls (⟨#[33, 61]⟩ : ByteArray) _ _ y264 t267 t268 t269 _ ?side1 ?side2 A12.out).mono ?_); (case side1 => repeat (first | exact (Kd.R_reads' HO266.out).2.2 | (with_reducible refine Kd.C_alloc ?_ _) | (with_reducible refine Kd.C_drewN ?_ _) | (with_reducible refine Kd.C_drew ?_))); (case side2 => exact (Kd.R_reads' HO266.out).2.1); rintro e w66 ⟨rfl, hb⟩; refine ⟨_, rfl, ?_⟩; have n0_ := Aside0.mk (Kd.R_below (by (with_reducible repeat (first | apply Kd.R_alloc | apply Kd.R_drewN | apply Kd.R_drew)); exact HO233.out) hb); have n1_ := Aside0.mk (Kd.R_below (by (with_reducible repeat (first | apply Kd.R_alloc | apply Kd.R_drewN | apply Kd.R_drew)); exact HO244.out) hb); have n2_ := Aside0.mk (Kd.R_below (by (with_reducible repeat (first | apply Kd.R_alloc | apply Kd.R_drewN | apply Kd.R_drew)); exact HO255.out) hb); have n3_ := Aside0.mk (Kd.R_below (by (with_reducible repeat (first | apply Kd.R_alloc | apply Kd.R_drewN | apply Kd.R_drew)); exact HO266.out) hb); have n4_ := Aside0.mk (blk_below (g := gb237) (o := .cells #[.int .i64 t234, .int .i64 t235] 25 (0, 0)) (by (with_reducible repeat (first | refine blk_drewN ?_ _ | refine blk_drew ?_ | refine blk_alloc ?_ _)); exact BK237.out) hb); have n5_ := Aside0.mk (blk_below (g := gb248) (o := .cells #[.int .i64 t245, .int .i64 t246] 25 (0, 0)) (by (with_reducible repeat (first | refine blk_drewN ?_ _ | refine blk_drew ?_ | refine blk_alloc ?_ _)); exact BK248.out) hb); have n6_ := Aside0.mk (blk_below (g := gb259) (o := .cells #[.int .i64 t256, .int .i64 t257] 25 (0, 0)) (by (with_reducible repeat (first | refine blk_drewN ?_ _ | refine blk_drew ?_ | refine blk_alloc ?_ _)); exact BK259.out) hb); have n7_ := Aside0.mk (below_step (by repeat (first | (with_reducible first | exact HB.out | apply below_alloc | apply pw_below_drewN | apply below_drew1 | refine below_set ?_ GE237.out | refine below_set ?_ GE248.out | refine below_set ?_ GE259.out) | exact HB.out)) hb); clear HO233; clear HO244; clear HO255; clear HO266; clear BK237; clear BK248; clear BK259; clear HB; have HO233 := n0_; have HO244 := n1_; have HO255 := n2_; have HO266 := n3_; have BK237 := n4_; have BK248 := n5_; have BK259 := n6_; have HB := n7_; clear n0_ n1_ n2_ n3_ n4_ n5_ n6_ n7_; (try clear hb); (try clear hb2); (try clear hk); (try clear hi)) | ((with_reducible refine gate_dst (N := 7) rfl ?_); (try (refine gate_guard (by rfl) ?_; dsimp only)); refine box_event ?hg (N := 7) ?hd (cs := #[.int .i64 0, .int .i64 0]) (t := 25) ?hr ?_; (case hd => rfl); (case hg => rfl); (case hr => first | (go_simp; done) | (go_simp; rfl)); intro gb270 hg w67 hbox hb; have n0_ := Aside0.mk (Kd.R_below (Kd.R_elderB (by (with_reducible repeat (first | apply Kd.R_alloc | apply Kd.R_drewN | apply Kd.R_drew)); exact HO233.out) gb270 (Nat.le_of_eq hg.symm)) hb); have n1_ := Aside0.mk (Kd.R_below (Kd.R_elderB (by (with_reducible repeat (first | apply Kd.R_alloc | apply Kd.R_drewN | apply Kd.R_drew)); exact HO244.out) gb270 (Nat.le_of_eq hg.symm)) hb); have n2_ := Aside0.mk (Kd.R_below (Kd.R_elderB (by (with_reducible repeat (first | apply Kd.R_alloc | apply Kd.R_drewN | apply Kd.R_drew)); exact HO255.out) gb270 (Nat.le_of_eq hg.symm)) hb); have n3_ := Aside0.mk (Kd.R_below (Kd.R_elderB (by (with_reducible repeat (first | apply Kd.R_alloc | apply Kd.R_drewN | apply Kd.R_drew)); exact HO266.out) gb270 (Nat.le_of_eq hg.symm)) hb); have n4_ := Aside0.mk (blk_below (g := gb237) (o := .cells #[.int .i64 t234, .int .i64 t235] 25 (0, 0)) (by (with_reducible repeat (first | refine blk_drewN ?_ _ | refine blk_drew ?_ | refine blk_alloc ?_ _)); exact BK237.out) hb); have n5_ := Aside0.mk (blk_below (g := gb248) (o := .cells #[.int .i64 t245, .int .i64 t246] 25 (0, 0)) (by (with_reducible repeat (first | refine blk_drewN ?_ _ | refine blk_drew ?_ | refine blk_alloc ?_ _)); exact BK248.out) hb); have n6_ := Aside0.mk (blk_below (g := gb259) (o := .cells #[.int .i64 t256, .int .i64 t257] 25 (0, 0)) (by (with_reducible repeat (first | refine blk_drewN ?_ _ | refine blk_drew ?_ | refine blk_alloc ?_ _)); exact BK259.out) hb); have n7_ := Aside0.mk (below_step (by repeat (first | (with_reducible first | exact HB.out | apply below_alloc | apply pw_below_drewN | apply below_drew1 | refine below_set ?_ GE237.out | refine below_set ?_ GE248.out | refine below_set ?_ GE259.out) | exact HB.out)) hb); have n8_ := Aside0.mk (hbox); have n9_ := Aside0.mk ((by rw [hg]; exact (below_size (by repeat (first | (with_reducible first | exact HB.out | apply below_alloc | apply pw_below_drewN | apply below_drew1 | refine below_set ?_ GE237.out | refine below_set ?_ GE248.out | refine below_set ?_ GE259.out) | exact HB.out))) : w.heap.size ≤ gb270)); have n10_ := Aside0.mk ((by rw [hg]; exact (below_size (by repeat (first | (with_reducible first | exact HB.out | apply below_alloc | apply pw_below_drewN | apply below_drew1 | refine below_set ?_ GE237.out | refine below_set ?_ GE248.out | refine below_set ?_ GE259.out) | exact HB.out))) : w.heap.size ≤ gb270)); have n11_ := Aside0.mk ((by rw [hg]; exact Nat.ne_of_lt (blk_lt (g := gb237) (o := .cells #[.int .i64 t234, .int .i64 t235] 25 (0, 0)) (by (with_reducible repeat (first | refine blk_drewN ?_ _ | refine blk_drew ?_ | refine blk_alloc ?_ _)); exact BK237.out)) : gb237 ≠ gb270)); have n12_ := Aside0.mk ((by rw [hg]; exact Nat.ne_of_gt (blk_lt (g := gb237) (o := .cells #[.int .i64 t234, .int .i64 t235] 25 (0, 0)) (by (with_reducible repeat (first | refine blk_drewN ?_ _ | refine blk_drew ?_ | refine blk_alloc ?_ _)); exact BK237.out)) : gb270 ≠ gb237)); have n13_ := Aside0.mk ((by rw [hg]; exact Nat.ne_of_lt (blk_lt (g := gb248) (o := .cells #[.int .i64 t245, .int .i64 t246] 25 (0, 0)) (by (with_reducible repeat (first | refine blk_drewN ?_ _ | refine blk_drew ?_ | refine blk_alloc ?_ _)); exact BK248.out)) : gb248 ≠ gb270)); have n14_ := Aside0.mk ((by rw [hg]; exact Nat.ne_of_gt (blk_lt (g := gb248) (o := .cells #[.int .i64 t245, .int .i64 t246] 25 (0, 0)) (by (with_reducible repeat (first | refine blk_drewN ?_ _ | refine blk_drew ?_ | refine blk_alloc ?_ _)); exact BK248.out)) : gb270 ≠ gb248)); have n15_ := Aside0.mk ((by rw [hg]; exact Nat.ne_of_lt (blk_lt (g := gb259) (o := .cells #[.int .i64 t256, .int .i64 t257] 25 (0, 0)) (by (with_reducible repeat (first | refine blk_drewN ?_ _ | refine blk_drew ?_ | refine blk_alloc ?_ _)); exact BK259.out)) : gb259 ≠ gb270)); have n16_ := Aside0.mk ((by rw [hg]; exact Nat.ne_of_gt (blk_lt (g := gb259) (o := .cells #[.int .i64 t256, .int .i64 t257] 25 (0, 0)) (by (with_reducible repeat (first | refine blk_drewN ?_ _ | refine blk_drew ?_ | refine blk_alloc ?_ _)); exact BK259.out)) : gb270 ≠ gb259)); clear HO233; clear HO244; clear HO255; clear HO266; clear BK237; clear BK248; clear BK259; clear HB; have HO233 := n0_; have HO244 := n1_; have HO255 := n2_; have HO266 := n3_; have BK237 := n4_; have BK248 := n5_; have BK259 := n6_; have HB := n7_; have BK270 := n8_; have GW270 := n9_; have GE270 := n10_; have NB237_270 := n11_; have NB270_237 := n12_; have NB248_270 := n13_; have NB270_248 := n14_; have NB259_270 := n15_; have NB270_259 := n16_; clear n0_ n1_ n2_ n3_ n4_ n5_ n6_ n7_ n8_ n9_ n10_ n11_ n12_ n13_ n14_ n15_ n16_; clear hb hbox hg; have hnb68 := NB270_237.out; have hnc68 := NB237_270.out; have hnb69 := NB270_248.out; have hnc69 := NB248_270.out; have hnb70 := NB270_259.out; have hnc70 := NB259_270.out; have hcz71_0 : w67.cell? ⟨gb270, 0, none⟩ = some (.int .i64 0) := (blk_cell BK270.out 0).trans rfl; have hcz71_1 : w67.cell? ⟨gb270, 1, none⟩ = some (.int .i64 0) := (blk_cell BK270.out 1).trans rfl; have hfz71_0 := blk_frozen BK270.out 0; have hfz71_1 := blk_frozen BK270.out 1) | ((with_reducible refine gate_callee (f := 31) rfl ?_); refine goesL_ (some 40) rfl rfl Tryz.func31 (by kernel_rfl) rfl #[.string (⟨#[45, 49, 50, 46, 48, 53]⟩ : ByteArray)] rfl (by (try simp only [List.map_toArray, List.map_cons, List.map_nil]); first | done | rfl | (simp only [List.length_drop, List.length_take]; rfl)) ?_; (with_reducible refine (value_Parse.calls (⟨#[45, 49, 50, 46, 48, 53]⟩ : ByteArray) t271 t272 t273 _ A13.out (HG.out.below (by repeat (first | (with_reducible first | exact HB.out | apply below_alloc | apply pw_below_drewN | apply below_drew1 | refine below_set ?_ GE237.out | refine below_set ?_ GE248.out | refine below_set ?_ GE259.out | refine below_set ?_ GE270.out) | exact HB.out)))).mono ?_); rintro e w72 ⟨rfl, hb⟩; refine ⟨_, rfl, ?_⟩; have n0_ := Aside0.mk (Kd.R_below (by (with_reducible repeat (first | apply Kd.R_alloc | apply Kd.R_drewN | apply Kd.R_drew)); exact (Kd.R_mono (Kd.R_far (p := ⟨gb270, 1, none⟩) (Kd.R_far (p := ⟨gb270, 0, none⟩) (Kd.R_mono HO233.out (fun k_ hk => (⟨hk, hk.2⟩ : _ ∧ k_ ≠ gb270))) (fun _ hk => hk.2) (.int .i64 t267)) (fun _ hk => hk.2) (.int .i64 t268)) (fun _ h_ => h_.1))) hb); have n1_ := Aside0.mk (Kd.R_below (by (with_reducible repeat (first | apply Kd.R_alloc | apply Kd.R_drewN | apply Kd.R_drew)); exact (Kd.R_mono (Kd.R_far (p := ⟨gb270, 1, none⟩) (Kd.R_far (p := ⟨gb270, 0, none⟩) (Kd.R_mono HO244.out (fun k_ hk => (⟨hk, hk.2⟩ : _ ∧ k_ ≠ gb270))) (fun _ hk => hk.2) (.int .i64 t267)) (fun _ hk => hk.2) (.int .i64 t268)) (fun _ h_ => h_.1))) hb); have n2_ := Aside0.mk (Kd.R_below (by (with_reducible repeat (first | apply Kd.R_alloc | apply Kd.R_drewN | apply Kd.R_drew)); exact (Kd.R_mono (Kd.R_far (p := ⟨gb270, 1, none⟩) (Kd.R_far (p := ⟨gb270, 0, none⟩) (Kd.R_mono HO255.out (fun k_ hk => (⟨hk, hk.2⟩ : _ ∧ k_ ≠ gb270))) (fun _ hk => hk.2) (.int .i64 t267)) (fun _ hk => hk.2) (.int .i64 t268)) (fun _ h_ => h_.1))) hb); have n3_ := Aside0.mk (Kd.R_below (by (with_reducible repeat (first | apply Kd.R_alloc | apply Kd.R_drewN | apply Kd.R_drew)); exact (Kd.R_mono (Kd.R_far (p := ⟨gb270, 1, none⟩) (Kd.R_far (p := ⟨gb270, 0, none⟩) (Kd.R_mono HO266.out (fun k_ hk => (⟨hk, hk.2⟩ : _ ∧ k_ ≠ gb270))) (fun _ hk => hk.2) (.int .i64 t267)) (fun _ hk => hk.2) (.int .i64 t268)) (fun _ h_ => h_.1))) hb); have n4_ := Aside0.mk (blk_below (g := gb237) (o := .cells #[.int .i64 t234, .int .i64 t235] 25 (0, 0)) (by (with_reducible repeat (first | refine blk_drewN ?_ _ | refine blk_drew ?_ | refine blk_alloc ?_ _)); refine blk_far ?_ NB237_270.out _; (with_reducible repeat (first | refine blk_drewN ?_ _ | refine blk_drew ?_ | refine blk_alloc ?_ _)); refine blk_far ?_ NB237_270.out _; (with_reducible repeat (first | refine blk_drewN ?_ _ | refine blk_drew ?_ | refine blk_alloc ?_ _)); exact BK237.out) hb); have n5_ := Aside0.mk (blk_below (g := gb248) (o := .cells #[.int .i64 t245, .int .i64 t246] 25 (0, 0)) (by (with_reducible repeat (first | refine blk_drewN ?_ _ | refine blk_drew ?_ | refine blk_alloc ?_ _)); refine blk_far ?_ NB248_270.out _; (with_reducible repeat (first | refine blk_drewN ?_ _ | refine blk_drew ?_ | refine blk_alloc ?_ _)); refine blk_far ?_ NB248_270.out _; (with_reducible repeat (first | refine blk_drewN ?_ _ | refine blk_drew ?_ | refine blk_alloc ?_ _)); exact BK248.out) hb); have n6_ := Aside0.mk (blk_below (g := gb259) (o := .cells #[.int .i64 t256, .int .i64 t257] 25 (0, 0)) (by (with_reducible repeat (first | refine blk_drewN ?_ _ | refine blk_drew ?_ | refine blk_alloc ?_ _)); refine blk_far ?_ NB259_270.out _; (with_reducible repeat (first | refine blk_drewN ?_ _ | refine blk_drew ?_ | refine blk_alloc ?_ _)); refine blk_far ?_ NB259_270.out _; (with_reducible repeat (first | refine blk_drewN ?_ _ | refine blk_drew ?_ | refine blk_alloc ?_ _)); exact BK259.out) hb); have n7_ := Aside0.mk (blk_below (g := gb270) (o := .cells #[.int .i64 t267, .int .i64 t268] 25 (0, 0)) (by (with_reducible repeat (first | refine blk_drewN ?_ _ | refine blk_drew ?_ | refine blk_alloc ?_ _)); refine blk_put (cs := #[.int .i64 t267, .int .i64 0]) ?_ 1 _ rfl; (with_reducible repeat (first | refine blk_drewN ?_ _ | refine blk_drew ?_ | refine blk_alloc ?_ _)); refine blk_put (cs := #[.int .i64 0, .int .i64 0]) ?_ 0 _ rfl; (with_reducible repeat (first | refine blk_drewN ?_ _ | refine blk_drew ?_ | refine blk_alloc ?_ _)); exact BK270.out) hb); have n8_ := Aside0.mk (below_step (by repeat (first | (with_reducible first | exact HB.out | apply below_alloc | apply pw_below_drewN | apply below_drew1 | refine below_set ?_ GE237.out | refine below_set ?_ GE248.out | refine below_set ?_ GE259.out | refine below_set ?_ GE270.out) | exact HB.out)) hb); clear HO233; clear HO244; clear HO255; clear HO266; clear BK237; clear BK248; clear BK259; clear BK270; clear HB; have HO233 := n0_; have HO244 := n1_; have HO255 := n2_; have HO266 := n3_; have BK237 := n4_; have BK248 := n5_; have BK259 := n6_; have BK270 := n7_; have HB := n8_; clear n0_ n1_ n2_ n3_ n4_ n5_ n6_ n7_ n8_; (try clear hb); (try clear hb2); (try clear hk); (try clear hi)) | ((with_reducible refine gate_dst (N := 9) rfl ?_); (try (refine gate_guard (by rfl) ?_; dsimp only)); refine box_event ?hg (N := 9) ?hd (cs := #[.int .i64 0, .int .i64 0]) (t := 25) ?hr ?_; (case hd => rfl); (case hg => rfl); (case hr => first | (go_simp; done) | (go_simp; rfl)); intro gb274 hg w73 hbox hb; have n0_ := Aside0.mk (Kd.R_below (Kd.R_elderB (by (with_reducible repeat (first | apply Kd.R_alloc | apply Kd.R_drewN | apply Kd.R_drew)); exact HO233.out) gb274 (Nat.le_of_eq hg.symm)) hb); have n1_ := Aside0.mk (Kd.R_below (Kd.R_elderB (by (with_reducible repeat (first | apply Kd.R_alloc | apply Kd.R_drewN | apply Kd.R_drew)); exact HO244.out) gb274 (Nat.le_of_eq hg.symm)) hb); have n2_ := Aside0.mk (Kd.R_below (Kd.R_elderB (by (with_reducible repeat (first | apply Kd.R_alloc | apply Kd.R_drewN | apply Kd.R_drew)); exact HO255.out) gb274 (Nat.le_of_eq hg.symm)) hb); have n3_ := Aside0.mk (Kd.R_below (Kd.R_elderB (by (with_reducible repeat (first | apply Kd.R_alloc | apply Kd.R_drewN | apply Kd.R_drew)); exact HO266.out) gb274 (Nat.le_of_eq hg.symm)) hb); have n4_ := Aside0.mk (blk_below (g := gb237) (o := .cells #[.int .i64 t234, .int .i64 t235] 25 (0, 0)) (by (with_reducible repeat (first | refine blk_drewN ?_ _ | refine blk_drew ?_ | refine blk_alloc ?_ _)); exact BK237.out) hb); have n5_ := Aside0.mk (blk_below (g := gb248) (o := .cells #[.int .i64 t245, .int .i64 t246] 25 (0, 0)) (by (with_reducible repeat (first | refine blk_drewN ?_ _ | refine blk_drew ?_ | refine blk_alloc ?_ _)); exact BK248.out) hb); have n6_ := Aside0.mk (blk_below (g := gb259) (o := .cells #[.int .i64 t256, .int .i64 t257] 25 (0, 0)) (by (with_reducible repeat (first | refine blk_drewN ?_ _ | refine blk_drew ?_ | refine blk_alloc ?_ _)); exact BK259.out) hb); have n7_ := Aside0.mk (blk_below (g := gb270) (o := .cells #[.int .i64 t267, .int .i64 t268] 25 (0, 0)) (by (with_reducible repeat (first | refine blk_drewN ?_ _ | refine blk_drew ?_ | refine blk_alloc ?_ _)); exact BK270.out) hb); have n8_ := Aside0.mk (below_step (by repeat (first | (with_reducible first | exact HB.out | apply below_alloc | apply pw_below_drewN | apply below_drew1 | refine below_set ?_ GE237.out | refine below_set ?_ GE248.out | refine below_set ?_ GE259.out | refine below_set ?_ GE270.out) | exact HB.out)) hb); have n9_ := Aside0.mk (hbox); have n10_ := Aside0.mk ((by rw [hg]; exact (below_size (by repeat (first | (with_reducible first | exact HB.out | apply below_alloc | apply pw_below_drewN | apply below_drew1 | refine below_set ?_ GE237.out | refine below_set ?_ GE248.out | refine below_set ?_ GE259.out | refine below_set ?_ GE270.out) | exact HB.out))) : w.heap.size ≤ gb274)); have n11_ := Aside0.mk ((by rw [hg]; exact (below_size (by repeat (first | (with_reducible first | exact HB.out | apply below_alloc | apply pw_below_drewN | apply below_drew1 | refine below_set ?_ GE237.out | refine below_set ?_ GE248.out | refine below_set ?_ GE259.out | refine below_set ?_ GE270.out) | exact HB.out))) : w.heap.size ≤ gb274)); have n12_ := Aside0.mk ((by rw [hg]; exact Nat.ne_of_lt (blk_lt (g := gb237) (o := .cells #[.int .i64 t234, .int .i64 t235] 25 (0, 0)) (by (with_reducible repeat (first | refine blk_drewN ?_ _ | refine blk_drew ?_ | refine blk_alloc ?_ _)); exact BK237.out)) : gb237 ≠ gb274)); have n13_ := Aside0.mk ((by rw [hg]; exact Nat.ne_of_gt (blk_lt (g := gb237) (o := .cells #[.int .i64 t234, .int .i64 t235] 25 (0, 0)) (by (with_reducible repeat (first | refine blk_drewN ?_ _ | refine blk_drew ?_ | refine blk_alloc ?_ _)); exact BK237.out)) : gb274 ≠ gb237)); have n14_ := Aside0.mk ((by rw [hg]; exact Nat.ne_of_lt (blk_lt (g := gb248) (o := .cells #[.int .i64 t245, .int .i64 t246] 25 (0, 0)) (by (with_reducible repeat (first | refine blk_drewN ?_ _ | refine blk_drew ?_ | refine blk_alloc ?_ _)); exact BK248.out)) : gb248 ≠ gb274)); have n15_ := Aside0.mk ((by rw [hg]; exact Nat.ne_of_gt (blk_lt (g := gb248) (o := .cells #[.int .i64 t245, .int .i64 t246] 25 (0, 0)) (by (with_reducible repeat (first | refine blk_drewN ?_ _ | refine blk_drew ?_ | refine blk_alloc ?_ _)); exact BK248.out)) : gb274 ≠ gb248)); have n16_ := Aside0.mk ((by rw [hg]; exact Nat.ne_of_lt (blk_lt (g := gb259) (o := .cells #[.int .i64 t256, .int .i64 t257] 25 (0, 0)) (by (with_reducible repeat (first | refine blk_drewN ?_ _ | refine blk_drew ?_ | refine blk_alloc ?_ _)); exact BK259.out)) : gb259 ≠ gb274)); have n17_ := Aside0.mk ((by rw [hg]; exact Nat.ne_of_gt (blk_lt (g := gb259) (o := .cells #[.int .i64 t256, .int .i64 t257] 25 (0, 0)) (by (with_reducible repeat (first | refine blk_drewN ?_ _ | refine blk_drew ?_ | refine blk_alloc ?_ _)); exact BK259.out)) : gb274 ≠ gb259)); have n18_ := Aside0.mk ((by rw [hg]; exact Nat.ne_of_lt (blk_lt (g := gb270) (o := .cells #[.int .i64 t267, .int .i64 t268] 25 (0, 0)) (by (with_reducible repeat (first | refine blk_drewN ?_ _ | refine blk_drew ?_ | refine blk_alloc ?_ _)); exact BK270.out)) : gb270 ≠ gb274)); have n19_ := Aside0.mk ((by rw [hg]; exact Nat.ne_of_gt (blk_lt (g := gb270) (o := .cells #[.int .i64 t267, .int .i64 t268] 25 (0, 0)) (by (with_reducible repeat (first | refine blk_drewN ?_ _ | refine blk_drew ?_ | refine blk_alloc ?_ _)); exact BK270.out)) : gb274 ≠ gb270)); clear HO233; clear HO244; clear HO255; clear HO266; clear BK237; clear BK248; clear BK259; clear BK270; clear HB; have HO233 := n0_; have HO244 := n1_; have HO255 := n2_; have HO266 := n3_; have BK237 := n4_; have BK248 := n5_; have BK259 := n6_; have BK270 := n7_; have HB := n8_; have BK274 := n9_; have GW274 := n10_; have GE274 := n11_; have NB237_274 := n12_; have NB274_237 := n13_; have NB248_274 := n14_; have NB274_248 := n15_; have NB259_274 := n16_; have NB274_259 := n17_; have NB270_274 := n18_; have NB274_270 := n19_; clear n0_ n1_ n2_ n3_ n4_ n5_ n6_ n7_ n8_ n9_ n10_ n11_ n12_ n13_ n14_ n15_ n16_ n17_ n18_ n19_; clear hb hbox hg; have hnb74 := NB274_237.out; have hnc74 := NB237_274.out; have hnb75 := NB274_248.out; have hnc75 := NB248_274.out; have hnb76 := NB274_259.out; have hnc76 := NB259_274.out; have hnb77 := NB274_270.out; have hnc77 := NB270_274.out; have hcz78_0 : w73.cell? ⟨gb274, 0, none⟩ = some (.int .i64 0) := (blk_cell BK274.out 0).trans rfl; have hcz78_1 : w73.cell? ⟨gb274, 1, none⟩ = some (.int .i64 0) := (blk_cell BK274.out 1).trans rfl; have hfz78_0 := blk_frozen BK274.out 0; have hfz78_1 := blk_frozen BK274.out 1))
                have n0_ : Aside0 (Kd.R k25 25 ((w73.setCell ⟨gb274, 0, none⟩ (.int .i64 t271)).setCell ⟨gb274, 1, none⟩ (.int .i64 t272)) w.heap.size (fun k_ => some k_ ≠ (.slice Ao46 y242.length co46 : Value).ownBlock ∧ some k_ ≠ (.slice Ao55 y253.length co55 : Value).ownBlock ∧ some k_ ≠ (.slice Ao65 y264.length co65 : Value).ownBlock ∧ k_ ≠ gb237 ∧ k_ ≠ gb248 ∧ k_ ≠ gb259 ∧ k_ ≠ gb270 ∧ k_ ≠ gb274) (.slice Ao38 y231.length co38) y231) := ⟨by (with_reducible repeat (first | apply Kd.R_alloc | apply Kd.R_drewN | apply Kd.R_drew)); exact Kd.R_mono (Kd.R_far (p := ⟨gb274, 1, none⟩) (Kd.R_far (p := ⟨gb274, 0, none⟩) (Kd.R_mono HO233.out (fun k_ hk => (⟨hk, hk.2⟩ : _ ∧ k_ ≠ gb274))) (fun _ hk => hk.2) (.int .i64 t271)) (fun _ hk => hk.2) (.int .i64 t272)) (fun _ hk => ⟨hk.1.1.1.1.1.1.1.2, ⟨hk.1.1.1.1.1.2, ⟨hk.1.1.1.2, ⟨hk.1.1.1.1.1.1.1.1.2, ⟨hk.1.1.1.1.1.1.2, ⟨hk.1.1.1.1.2, ⟨hk.1.1.2, hk.1.2⟩⟩⟩⟩⟩⟩⟩)⟩
                have n1_ : Aside0 (Kd.R k25 25 ((w73.setCell ⟨gb274, 0, none⟩ (.int .i64 t271)).setCell ⟨gb274, 1, none⟩ (.int .i64 t272)) w.heap.size (fun k_ => some k_ ≠ (.slice Ao38 y231.length co38 : Value).ownBlock ∧ some k_ ≠ (.slice Ao55 y253.length co55 : Value).ownBlock ∧ some k_ ≠ (.slice Ao65 y264.length co65 : Value).ownBlock ∧ k_ ≠ gb237 ∧ k_ ≠ gb248 ∧ k_ ≠ gb259 ∧ k_ ≠ gb270 ∧ k_ ≠ gb274) (.slice Ao46 y242.length co46) y242) := ⟨by (with_reducible repeat (first | apply Kd.R_alloc | apply Kd.R_drewN | apply Kd.R_drew)); exact Kd.R_mono (Kd.R_far (p := ⟨gb274, 1, none⟩) (Kd.R_far (p := ⟨gb274, 0, none⟩) (Kd.R_mono HO244.out (fun k_ hk => (⟨hk, hk.2⟩ : _ ∧ k_ ≠ gb274))) (fun _ hk => hk.2) (.int .i64 t271)) (fun _ hk => hk.2) (.int .i64 t272)) (fun _ hk => ⟨hk.1.1.1.1.1.1.1.1.2, ⟨hk.1.1.1.1.1.2, ⟨hk.1.1.1.2, ⟨hk.1.1.1.1.1.1.1.2, ⟨hk.1.1.1.1.1.1.2, ⟨hk.1.1.1.1.2, ⟨hk.1.1.2, hk.1.2⟩⟩⟩⟩⟩⟩⟩)⟩
                have n2_ : Aside0 (Kd.R k25 25 ((w73.setCell ⟨gb274, 0, none⟩ (.int .i64 t271)).setCell ⟨gb274, 1, none⟩ (.int .i64 t272)) w.heap.size (fun k_ => some k_ ≠ (.slice Ao38 y231.length co38 : Value).ownBlock ∧ some k_ ≠ (.slice Ao46 y242.length co46 : Value).ownBlock ∧ some k_ ≠ (.slice Ao65 y264.length co65 : Value).ownBlock ∧ k_ ≠ gb237 ∧ k_ ≠ gb248 ∧ k_ ≠ gb259 ∧ k_ ≠ gb270 ∧ k_ ≠ gb274) (.slice Ao55 y253.length co55) y253) := ⟨by (with_reducible repeat (first | apply Kd.R_alloc | apply Kd.R_drewN | apply Kd.R_drew)); exact Kd.R_mono (Kd.R_far (p := ⟨gb274, 1, none⟩) (Kd.R_far (p := ⟨gb274, 0, none⟩) (Kd.R_mono HO255.out (fun k_ hk => (⟨hk, hk.2⟩ : _ ∧ k_ ≠ gb274))) (fun _ hk => hk.2) (.int .i64 t271)) (fun _ hk => hk.2) (.int .i64 t272)) (fun _ hk => ⟨hk.1.1.1.1.1.1.1.1.2, ⟨hk.1.1.1.1.1.1.1.2, ⟨hk.1.1.1.2, ⟨hk.1.1.1.1.1.1.2, ⟨hk.1.1.1.1.1.2, ⟨hk.1.1.1.1.2, ⟨hk.1.1.2, hk.1.2⟩⟩⟩⟩⟩⟩⟩)⟩
                have n3_ : Aside0 (Kd.R k25 25 ((w73.setCell ⟨gb274, 0, none⟩ (.int .i64 t271)).setCell ⟨gb274, 1, none⟩ (.int .i64 t272)) w.heap.size (fun k_ => some k_ ≠ (.slice Ao38 y231.length co38 : Value).ownBlock ∧ some k_ ≠ (.slice Ao46 y242.length co46 : Value).ownBlock ∧ some k_ ≠ (.slice Ao55 y253.length co55 : Value).ownBlock ∧ k_ ≠ gb237 ∧ k_ ≠ gb248 ∧ k_ ≠ gb259 ∧ k_ ≠ gb270 ∧ k_ ≠ gb274) (.slice Ao65 y264.length co65) y264) := ⟨by (with_reducible repeat (first | apply Kd.R_alloc | apply Kd.R_drewN | apply Kd.R_drew)); exact Kd.R_mono (Kd.R_far (p := ⟨gb274, 1, none⟩) (Kd.R_far (p := ⟨gb274, 0, none⟩) (Kd.R_mono HO266.out (fun k_ hk => (⟨hk, hk.2⟩ : _ ∧ k_ ≠ gb274))) (fun _ hk => hk.2) (.int .i64 t271)) (fun _ hk => hk.2) (.int .i64 t272)) (fun _ hk => ⟨hk.1.1.1.1.1.1.1.1.2, ⟨hk.1.1.1.1.1.1.1.2, ⟨hk.1.1.1.1.1.1.2, ⟨hk.1.1.1.1.1.2, ⟨hk.1.1.1.1.2, ⟨hk.1.1.1.2, ⟨hk.1.1.2, hk.1.2⟩⟩⟩⟩⟩⟩⟩)⟩
                have n4_ : Aside0 (((w73.setCell ⟨gb274, 0, none⟩ (.int .i64 t271)).setCell ⟨gb274, 1, none⟩ (.int .i64 t272)).heap[gb237]? = some (.cells #[.int .i64 t234, .int .i64 t235] 25 (0, 0))) := ⟨by (with_reducible repeat (first | refine blk_drewN ?_ _ | refine blk_drew ?_ | refine blk_alloc ?_ _)); refine blk_far ?_ NB237_274.out _; (with_reducible repeat (first | refine blk_drewN ?_ _ | refine blk_drew ?_ | refine blk_alloc ?_ _)); refine blk_far ?_ NB237_274.out _; (with_reducible repeat (first | refine blk_drewN ?_ _ | refine blk_drew ?_ | refine blk_alloc ?_ _)); exact BK237.out⟩
                have n5_ : Aside0 (((w73.setCell ⟨gb274, 0, none⟩ (.int .i64 t271)).setCell ⟨gb274, 1, none⟩ (.int .i64 t272)).heap[gb248]? = some (.cells #[.int .i64 t245, .int .i64 t246] 25 (0, 0))) := ⟨by (with_reducible repeat (first | refine blk_drewN ?_ _ | refine blk_drew ?_ | refine blk_alloc ?_ _)); refine blk_far ?_ NB248_274.out _; (with_reducible repeat (first | refine blk_drewN ?_ _ | refine blk_drew ?_ | refine blk_alloc ?_ _)); refine blk_far ?_ NB248_274.out _; (with_reducible repeat (first | refine blk_drewN ?_ _ | refine blk_drew ?_ | refine blk_alloc ?_ _)); exact BK248.out⟩
                have n6_ : Aside0 (((w73.setCell ⟨gb274, 0, none⟩ (.int .i64 t271)).setCell ⟨gb274, 1, none⟩ (.int .i64 t272)).heap[gb259]? = some (.cells #[.int .i64 t256, .int .i64 t257] 25 (0, 0))) := ⟨by (with_reducible repeat (first | refine blk_drewN ?_ _ | refine blk_drew ?_ | refine blk_alloc ?_ _)); refine blk_far ?_ NB259_274.out _; (with_reducible repeat (first | refine blk_drewN ?_ _ | refine blk_drew ?_ | refine blk_alloc ?_ _)); refine blk_far ?_ NB259_274.out _; (with_reducible repeat (first | refine blk_drewN ?_ _ | refine blk_drew ?_ | refine blk_alloc ?_ _)); exact BK259.out⟩
                have n7_ : Aside0 (((w73.setCell ⟨gb274, 0, none⟩ (.int .i64 t271)).setCell ⟨gb274, 1, none⟩ (.int .i64 t272)).heap[gb270]? = some (.cells #[.int .i64 t267, .int .i64 t268] 25 (0, 0))) := ⟨by (with_reducible repeat (first | refine blk_drewN ?_ _ | refine blk_drew ?_ | refine blk_alloc ?_ _)); refine blk_far ?_ NB270_274.out _; (with_reducible repeat (first | refine blk_drewN ?_ _ | refine blk_drew ?_ | refine blk_alloc ?_ _)); refine blk_far ?_ NB270_274.out _; (with_reducible repeat (first | refine blk_drewN ?_ _ | refine blk_drew ?_ | refine blk_alloc ?_ _)); exact BK270.out⟩
                have n8_ : Aside0 (((w73.setCell ⟨gb274, 0, none⟩ (.int .i64 t271)).setCell ⟨gb274, 1, none⟩ (.int .i64 t272)).heap[gb274]? = some (.cells #[.int .i64 t271, .int .i64 t272] 25 (0, 0))) := ⟨by (with_reducible repeat (first | refine blk_drewN ?_ _ | refine blk_drew ?_ | refine blk_alloc ?_ _)); refine blk_put (cs := #[.int .i64 t271, .int .i64 0]) ?_ 1 _ rfl; (with_reducible repeat (first | refine blk_drewN ?_ _ | refine blk_drew ?_ | refine blk_alloc ?_ _)); refine blk_put (cs := #[.int .i64 0, .int .i64 0]) ?_ 0 _ rfl; (with_reducible repeat (first | refine blk_drewN ?_ _ | refine blk_drew ?_ | refine blk_alloc ?_ _)); exact BK274.out⟩
                have n9_ : Aside0 (Below w.heap.size w ((w73.setCell ⟨gb274, 0, none⟩ (.int .i64 t271)).setCell ⟨gb274, 1, none⟩ (.int .i64 t272))) := ⟨by repeat (first | (with_reducible first | exact HB.out | apply below_alloc | apply pw_below_drewN | apply below_drew1 | refine below_set ?_ GE237.out | refine below_set ?_ GE248.out | refine below_set ?_ GE259.out | refine below_set ?_ GE270.out | refine below_set ?_ GE274.out) | exact HB.out)⟩
                (try clear HO233)
                (try clear HO244)
                (try clear HO255)
                (try clear HO266)
                (try clear BK237)
                (try clear BK248)
                (try clear BK259)
                (try clear BK270)
                (try clear BK274)
                (try clear HB)
                generalize ((w73.setCell ⟨gb274, 0, none⟩ (.int .i64 t271)).setCell ⟨gb274, 1, none⟩ (.int .i64 t272)) = w79 at n0_ n1_ n2_ n3_ n4_ n5_ n6_ n7_ n8_ n9_ ⊢
                have HO233 := n0_
                have HO244 := n1_
                have HO255 := n2_
                have HO266 := n3_
                have BK237 := n4_
                have BK248 := n5_
                have BK259 := n6_
                have BK270 := n7_
                have BK274 := n8_
                have HB := n9_
                clear n0_ n1_ n2_ n3_ n4_ n5_ n6_ n7_ n8_ n9_
                have n0_ := Aside0.mk (Kd.R_drew HO233.out)
                have n1_ := Aside0.mk (Kd.R_drew HO244.out)
                have n2_ := Aside0.mk (Kd.R_drew HO255.out)
                have n3_ := Aside0.mk (Kd.R_drew HO266.out)
                have n4_ := Aside0.mk (blk_drew BK237.out)
                have n5_ := Aside0.mk (blk_drew BK248.out)
                have n6_ := Aside0.mk (blk_drew BK259.out)
                have n7_ := Aside0.mk (blk_drew BK270.out)
                have n8_ := Aside0.mk (blk_drew BK274.out)
                have n9_ := Aside0.mk (below_drew1 HB.out)
                clear HO233
                clear HO244
                clear HO255
                clear HO266
                clear BK237
                clear BK248
                clear BK259
                clear BK270
                clear BK274
                clear HB
                have HO233 := n0_
                have HO244 := n1_
                have HO255 := n2_
                have HO266 := n3_
                have BK237 := n4_
                have BK248 := n5_
                have BK259 := n6_
                have BK270 := n7_
                have BK274 := n8_
                have HB := n9_
                clear n0_ n1_ n2_ n3_ n4_ n5_ n6_ n7_ n8_ n9_
                refine start_ (n := 53) (S := fun w' => w'.cell? ⟨gb237, 0, none⟩ = some (.int .i64 t234) ∧ w'.cell? ⟨gb237, 1, none⟩ = some (.int .i64 t235) ∧ w'.cell? ⟨gb248, 0, none⟩ = some (.int .i64 t245) ∧ w'.cell? ⟨gb248, 1, none⟩ = some (.int .i64 t246) ∧ w'.cell? ⟨gb259, 0, none⟩ = some (.int .i64 t256) ∧ w'.cell? ⟨gb259, 1, none⟩ = some (.int .i64 t257) ∧ w'.cell? ⟨gb270, 0, none⟩ = some (.int .i64 t267) ∧ w'.cell? ⟨gb270, 1, none⟩ = some (.int .i64 t268) ∧ w'.cell? ⟨gb274, 0, none⟩ = some (.int .i64 t271) ∧ w'.cell? ⟨gb274, 1, none⟩ = some (.int .i64 t272)) (ds := []) #[false, false, false, false, false, false, false, false, false, false, false, false, false, false, false, false, false, false, false, false, false, false, false, false, false, false, false, false, false, false, false, false, false, false, false, false, false, false, false, false, false, false, false, false, false, false, false, false, false, false, false, false, false] (by kernel_rfl) rfl rfl ⟨(blk_cell BK237.out 0).trans rfl, (blk_cell BK237.out 1).trans rfl, (blk_cell BK248.out 0).trans rfl, (blk_cell BK248.out 1).trans rfl, (blk_cell BK259.out 0).trans rfl, (blk_cell BK259.out 1).trans rfl, (blk_cell BK270.out 0).trans rfl, (blk_cell BK270.out 1).trans rfl, (blk_cell BK274.out 0).trans rfl, (blk_cell BK274.out 1).trans rfl⟩ (fun hHeld => ?_); refine with_tabW klaxonlaw08_live.tab6 klaxonlaw08_live.bits6 (fun HT_ HW_ => ?_)
                generalize w79.drew = w80 at HO233 HO244 HO255 HO266 BK237 BK248 BK259 BK270 BK274 HB hHeld ⊢
                refine pure_ (i := 0) (N := some 43) (v := ?_) (a' := ?_) #[true, false, false, false, false, false, false, false, false, false, false, false, false, false, false, false, false, false, false, false, false, false, false, false, false, false, false, false, false, false, false, false, false, false, false, false, false, false, false, false, false, false, false, false, false, false, false, false, false, false, false, false, false] rfl rfl (any_of HT_.out (by kernel_rfl)) (fun _ _ _ h => h) (Or.inl ⟨by rfl, ?_⟩) ?_ ?_
                rotate_left
                · intro w'
                  go_simp
                  with_reducible rfl
                rotate_left
                · simp only [Act.put, List.setIfInBounds_toArray, List.set_cons_zero, List.set_cons_succ, i64_w, i32_w]
                  rfl
                refine pure_ (i := 2) (N := some 45) (v := ?_) (a' := ?_) #[true, false, true, false, false, false, false, false, false, false, false, false, false, false, false, false, false, false, false, false, false, false, false, false, false, false, false, false, false, false, false, false, false, false, false, false, false, false, false, false, false, false, false, false, false, false, false, false, false, false, false, false, false] rfl rfl (any_of HT_.out (by kernel_rfl)) (fun _ _ _ h => h) (Or.inl ⟨by rfl, ?_⟩) ?_ ?_
                rotate_left
                · intro w'
                  go_simp
                  with_reducible rfl
                rotate_left
                · simp only [Act.put, List.setIfInBounds_toArray, List.set_cons_zero, List.set_cons_succ, i64_w, i32_w]
                  rfl
                refine pure_ (i := 5) (N := some 48) (v := ?_) (a' := ?_) #[true, false, true, false, false, true, false, false, false, false, false, false, false, false, false, false, false, false, false, false, false, false, false, false, false, false, false, false, false, false, false, false, false, false, false, false, false, false, false, false, false, false, false, false, false, false, false, false, false, false, false, false, false] rfl rfl (any_of HT_.out (by kernel_rfl)) (fun _ _ _ h => h) (Or.inl ⟨by rfl, ?_⟩) ?_ ?_
                rotate_left
                · intro w'
                  go_simp
                  with_reducible rfl
                rotate_left
                · simp only [Act.put, List.setIfInBounds_toArray, List.set_cons_zero, List.set_cons_succ, i64_w, i32_w]
                  rfl
                refine pure_ (i := 8) (N := some 51) (v := ?_) (a' := ?_) #[true, false, true, false, false, true, false, false, true, false, false, false, false, false, false, false, false, false, false, false, false, false, false, false, false, false, false, false, false, false, false, false, false, false, false, false, false, false, false, false, false, false, false, false, false, false, false, false, false, false, false, false, false] rfl rfl (any_of HT_.out (by kernel_rfl)) (fun _ _ _ h => h) (Or.inl ⟨by rfl, ?_⟩) ?_ ?_
                rotate_left
                · intro w'
                  go_simp
                  with_reducible rfl
                rotate_left
                · simp only [Act.put, List.setIfInBounds_toArray, List.set_cons_zero, List.set_cons_succ, i64_w, i32_w]
                  rfl
                refine pure_ (i := 11) (N := some 54) (v := ?_) (a' := ?_) #[true, false, true, false, false, true, false, false, true, false, false, true, false, false, false, false, false, false, false, false, false, false, false, false, false, false, false, false, false, false, false, false, false, false, false, false, false, false, false, false, false, false, false, false, false, false, false, false, false, false, false, false, false] rfl rfl (any_of HT_.out (by kernel_rfl)) (fun _ _ _ h => h) (Or.inl ⟨by rfl, ?_⟩) ?_ ?_
                rotate_left
                · intro w'
                  go_simp
                  with_reducible rfl
                rotate_left
                · simp only [Act.put, List.setIfInBounds_toArray, List.set_cons_zero, List.set_cons_succ, i64_w, i32_w]
                  rfl
                refine one_ (i := 1) (N := some 44) #[true, true, true, false, false, true, false, false, true, false, false, true, false, false, false, false, false, false, false, false, false, false, false, false, false, false, false, false, false, false, false, false, false, false, false, false, false, false, false, false, false, false, false, false, false, false, false, false, false, false, false, false, false] rfl rfl (one_of HT_.out (by kernel_rfl)) (by decide) (fun K hK => ?_)
                refine goes_ Tryz.func16 (by kernel_rfl) rfl #[.int .i64 t236] (by rfl) rfl rfl (by (try simp only [List.map_toArray, List.map_cons, List.map_nil]); first | done | rfl | (simp only [List.length_drop, List.length_take]; rfl)) ?_
                with_reducible refine (klaxonlaw08_num.calls t236 t275 _ A14.out).mono ?_
                rintro e w' ⟨rfl, ⟨nd, rfl⟩⟩
                refine ⟨_, rfl, ?_⟩
                refine hK.out _ _ ⟨(blk_cell BK237.out 0).trans rfl, (blk_cell BK237.out 1).trans rfl, (blk_cell BK248.out 0).trans rfl, (blk_cell BK248.out 1).trans rfl, (blk_cell BK259.out 0).trans rfl, (blk_cell BK259.out 1).trans rfl, (blk_cell BK270.out 0).trans rfl, (blk_cell BK270.out 1).trans rfl, (blk_cell BK274.out 0).trans rfl, (blk_cell BK274.out 1).trans rfl⟩ (fun hHeld => ?_)
                clear hK K
                refine norm_ (a' := ?_) ?_ ?_
                rotate_left
                · show Act.put _ (some 44) _ = _
                  simp only [Act.put, List.setIfInBounds_toArray, List.set_cons_zero, List.set_cons_succ, i64_w, i32_w]
                  rfl
                refine one_ (i := 3) (N := some 46) #[true, true, true, true, false, true, false, false, true, false, false, true, false, false, false, false, false, false, false, false, false, false, false, false, false, false, false, false, false, false, false, false, false, false, false, false, false, false, false, false, false, false, false, false, false, false, false, false, false, false, false, false, false] rfl rfl (one_of HT_.out (by kernel_rfl)) (by decide) (fun K hK => ?_)
                refine goes_ Tryz.func16 (by kernel_rfl) rfl #[.int .i64 t247] (by rfl) rfl rfl (by (try simp only [List.map_toArray, List.map_cons, List.map_nil]); first | done | rfl | (simp only [List.length_drop, List.length_take]; rfl)) ?_
                with_reducible refine (klaxonlaw08_num.calls t247 t276 _ A15.out).mono ?_
                rintro e w' ⟨rfl, ⟨nd, rfl⟩⟩
                refine ⟨_, rfl, ?_⟩
                refine hK.out _ _ ⟨(blk_cell BK237.out 0).trans rfl, (blk_cell BK237.out 1).trans rfl, (blk_cell BK248.out 0).trans rfl, (blk_cell BK248.out 1).trans rfl, (blk_cell BK259.out 0).trans rfl, (blk_cell BK259.out 1).trans rfl, (blk_cell BK270.out 0).trans rfl, (blk_cell BK270.out 1).trans rfl, (blk_cell BK274.out 0).trans rfl, (blk_cell BK274.out 1).trans rfl⟩ (fun hHeld => ?_)
                clear hK K
                refine norm_ (a' := ?_) ?_ ?_
                rotate_left
                · show Act.put _ (some 46) _ = _
                  simp only [Act.put, List.setIfInBounds_toArray, List.set_cons_zero, List.set_cons_succ, i64_w, i32_w]
                  rfl
                refine pure_ (i := 4) (N := some 47) (v := ?_) (a' := ?_) #[true, true, true, true, true, true, false, false, true, false, false, true, false, false, false, false, false, false, false, false, false, false, false, false, false, false, false, false, false, false, false, false, false, false, false, false, false, false, false, false, false, false, false, false, false, false, false, false, false, false, false, false, false] rfl rfl (any_of HT_.out (by kernel_rfl)) (fun _ _ _ h => h) (Or.inl ⟨by rfl, ?_⟩) ?_ ?_
                rotate_left
                · intro w'
                  go_simp
                  with_reducible rfl
                rotate_left
                · simp only [Act.put, List.setIfInBounds_toArray, List.set_cons_zero, List.set_cons_succ, i64_w, i32_w]
                  rfl
                refine one_ (i := 6) (N := some 49) #[true, true, true, true, true, true, true, false, true, false, false, true, false, false, false, false, false, false, false, false, false, false, false, false, false, false, false, false, false, false, false, false, false, false, false, false, false, false, false, false, false, false, false, false, false, false, false, false, false, false, false, false, false] rfl rfl (one_of HT_.out (by kernel_rfl)) (by decide) (fun K hK => ?_)
                refine goes_ Tryz.func16 (by kernel_rfl) rfl #[.int .i64 t258] (by rfl) rfl rfl (by (try simp only [List.map_toArray, List.map_cons, List.map_nil]); first | done | rfl | (simp only [List.length_drop, List.length_take]; rfl)) ?_
                with_reducible refine (klaxonlaw08_num.calls t258 t277 _ A16.out).mono ?_
                rintro e w' ⟨rfl, ⟨nd, rfl⟩⟩
                refine ⟨_, rfl, ?_⟩
                refine hK.out _ _ ⟨(blk_cell BK237.out 0).trans rfl, (blk_cell BK237.out 1).trans rfl, (blk_cell BK248.out 0).trans rfl, (blk_cell BK248.out 1).trans rfl, (blk_cell BK259.out 0).trans rfl, (blk_cell BK259.out 1).trans rfl, (blk_cell BK270.out 0).trans rfl, (blk_cell BK270.out 1).trans rfl, (blk_cell BK274.out 0).trans rfl, (blk_cell BK274.out 1).trans rfl⟩ (fun hHeld => ?_)
                clear hK K
                refine norm_ (a' := ?_) ?_ ?_
                rotate_left
                · show Act.put _ (some 49) _ = _
                  simp only [Act.put, List.setIfInBounds_toArray, List.set_cons_zero, List.set_cons_succ, i64_w, i32_w]
                  rfl
                refine pure_ (i := 7) (N := some 50) (v := ?_) (a' := ?_) #[true, true, true, true, true, true, true, true, true, false, false, true, false, false, false, false, false, false, false, false, false, false, false, false, false, false, false, false, false, false, false, false, false, false, false, false, false, false, false, false, false, false, false, false, false, false, false, false, false, false, false, false, false] rfl rfl (any_of HT_.out (by kernel_rfl)) (fun _ _ _ h => h) (Or.inl ⟨by rfl, ?_⟩) ?_ ?_
                rotate_left
                · intro w'
                  go_simp
                  with_reducible rfl
                rotate_left
                · simp only [Act.put, List.setIfInBounds_toArray, List.set_cons_zero, List.set_cons_succ, i64_w, i32_w]
                  rfl
                refine one_ (i := 9) (N := some 52) #[true, true, true, true, true, true, true, true, true, true, false, true, false, false, false, false, false, false, false, false, false, false, false, false, false, false, false, false, false, false, false, false, false, false, false, false, false, false, false, false, false, false, false, false, false, false, false, false, false, false, false, false, false] rfl rfl (one_of HT_.out (by kernel_rfl)) (by decide) (fun K hK => ?_)
                refine goes_ Tryz.func16 (by kernel_rfl) rfl #[.int .i64 t269] (by rfl) rfl rfl (by (try simp only [List.map_toArray, List.map_cons, List.map_nil]); first | done | rfl | (simp only [List.length_drop, List.length_take]; rfl)) ?_
                with_reducible refine (klaxonlaw08_num.calls t269 t278 _ A17.out).mono ?_
                rintro e w' ⟨rfl, ⟨nd, rfl⟩⟩
                refine ⟨_, rfl, ?_⟩
                refine hK.out _ _ ⟨(blk_cell BK237.out 0).trans rfl, (blk_cell BK237.out 1).trans rfl, (blk_cell BK248.out 0).trans rfl, (blk_cell BK248.out 1).trans rfl, (blk_cell BK259.out 0).trans rfl, (blk_cell BK259.out 1).trans rfl, (blk_cell BK270.out 0).trans rfl, (blk_cell BK270.out 1).trans rfl, (blk_cell BK274.out 0).trans rfl, (blk_cell BK274.out 1).trans rfl⟩ (fun hHeld => ?_)
                clear hK K
                refine norm_ (a' := ?_) ?_ ?_
                rotate_left
                · show Act.put _ (some 52) _ = _
                  simp only [Act.put, List.setIfInBounds_toArray, List.set_cons_zero, List.set_cons_succ, i64_w, i32_w]
                  rfl
                refine pure_ (i := 10) (N := some 53) (v := ?_) (a' := ?_) #[true, true, true, true, true, true, true, true, true, true, true, true, false, false, false, false, false, false, false, false, false, false, false, false, false, false, false, false, false, false, false, false, false, false, false, false, false, false, false, false, false, false, false, false, false, false, false, false, false, false, false, false, false] rfl rfl (any_of HT_.out (by kernel_rfl)) (fun _ _ _ h => h) (Or.inl ⟨by rfl, ?_⟩) ?_ ?_
                rotate_left
                · intro w'
                  go_simp
                  with_reducible rfl
                rotate_left
                · simp only [Act.put, List.setIfInBounds_toArray, List.set_cons_zero, List.set_cons_succ, i64_w, i32_w]
                  rfl
                refine one_ (i := 12) (N := some 55) #[true, true, true, true, true, true, true, true, true, true, true, true, true, false, false, false, false, false, false, false, false, false, false, false, false, false, false, false, false, false, false, false, false, false, false, false, false, false, false, false, false, false, false, false, false, false, false, false, false, false, false, false, false] rfl rfl (one_of HT_.out (by kernel_rfl)) (by decide) (fun K hK => ?_)
                refine goes_ Tryz.func16 (by kernel_rfl) rfl #[.int .i64 t273] (by rfl) rfl rfl (by (try simp only [List.map_toArray, List.map_cons, List.map_nil]); first | done | rfl | (simp only [List.length_drop, List.length_take]; rfl)) ?_
                with_reducible refine (klaxonlaw08_num.calls t273 t279 _ A18.out).mono ?_
                rintro e w' ⟨rfl, ⟨nd, rfl⟩⟩
                refine ⟨_, rfl, ?_⟩
                refine hK.out _ _ ⟨(blk_cell BK237.out 0).trans rfl, (blk_cell BK237.out 1).trans rfl, (blk_cell BK248.out 0).trans rfl, (blk_cell BK248.out 1).trans rfl, (blk_cell BK259.out 0).trans rfl, (blk_cell BK259.out 1).trans rfl, (blk_cell BK270.out 0).trans rfl, (blk_cell BK270.out 1).trans rfl, (blk_cell BK274.out 0).trans rfl, (blk_cell BK274.out 1).trans rfl⟩ (fun hHeld => ?_)
                clear hK K
                refine norm_ (a' := ?_) ?_ ?_
                rotate_left
                · show Act.put _ (some 55) _ = _
                  simp only [Act.put, List.setIfInBounds_toArray, List.set_cons_zero, List.set_cons_succ, i64_w, i32_w]
                  rfl
                refine pure_ (i := 13) (N := some 56) (v := ?_) (a' := ?_) #[true, true, true, true, true, true, true, true, true, true, true, true, true, true, false, false, false, false, false, false, false, false, false, false, false, false, false, false, false, false, false, false, false, false, false, false, false, false, false, false, false, false, false, false, false, false, false, false, false, false, false, false, false] rfl rfl (any_of HT_.out (by kernel_rfl)) (fun _ _ _ h => h) (Or.inl ⟨by rfl, ?_⟩) ?_ ?_
                rotate_left
                · intro w'
                  go_simp
                  with_reducible rfl
                rotate_left
                · simp only [Act.put, List.setIfInBounds_toArray, List.set_cons_zero, List.set_cons_succ, i64_w, i32_w]
                  rfl
                refine pure_ (i := 14) (N := some 57) (v := ?_) (a' := ?_) #[true, true, true, true, true, true, true, true, true, true, true, true, true, true, true, false, false, false, false, false, false, false, false, false, false, false, false, false, false, false, false, false, false, false, false, false, false, false, false, false, false, false, false, false, false, false, false, false, false, false, false, false, false] rfl rfl (any_of HT_.out (by kernel_rfl)) (fun _ _ _ h => h) (Or.inl ⟨by rfl, ?_⟩) ?_ ?_
                rotate_left
                · intro w'
                  go_simp
                  with_reducible rfl
                rotate_left
                · simp only [Act.put, List.setIfInBounds_toArray, List.set_cons_zero, List.set_cons_succ, i64_w, i32_w]
                  rfl
                refine pure_ (i := 15) (N := some 58) (v := ?_) (a' := ?_) #[true, true, true, true, true, true, true, true, true, true, true, true, true, true, true, true, false, false, false, false, false, false, false, false, false, false, false, false, false, false, false, false, false, false, false, false, false, false, false, false, false, false, false, false, false, false, false, false, false, false, false, false, false] rfl rfl (any_of HT_.out (by kernel_rfl)) (fun _ _ _ h => h) (Or.inl ⟨by rfl, ?_⟩) ?_ ?_
                rotate_left
                · intro w'
                  go_simp
                  with_reducible rfl
                rotate_left
                · simp only [Act.put, List.setIfInBounds_toArray, List.set_cons_zero, List.set_cons_succ, i64_w, i32_w]
                  rfl
                refine take_ (i := 16) (N := some 59) (v := ?_) (a' := ?_) #[true, true, true, true, true, true, true, true, true, true, true, true, true, true, true, true, true, false, false, false, false, false, false, false, false, false, false, false, false, false, false, false, false, false, false, false, false, false, false, false, false, false, false, false, false, false, false, false, false, false, false, false, false] rfl rfl (take_ofW HT_.out HW_.out (by kernel_rfl)) (fun _ _ _ h => h) (Or.inl ⟨by rfl, ?_⟩) hHeld ?_ ?_
                rotate_left
                · rintro w' ⟨s0, s1, s2, s3, s4, s5, s6, s7, s8, s9⟩
                  go_simp
                  with_reducible rfl
                rotate_left
                · simp only [Act.put, List.setIfInBounds_toArray, List.set_cons_zero, List.set_cons_succ, i64_w, i32_w]
                  rfl
                refine one_ (i := 17) (N := some 60) #[true, true, true, true, true, true, true, true, true, true, true, true, true, true, true, true, true, true, false, false, false, false, false, false, false, false, false, false, false, false, false, false, false, false, false, false, false, false, false, false, false, false, false, false, false, false, false, false, false, false, false, false, false] rfl rfl (one_of HT_.out (by kernel_rfl)) (by decide) (fun K hK => ?_)
                refine goes_ Tryz.func20 (by kernel_rfl) rfl #[.int .i64 333] (by rfl) rfl rfl (by (try simp only [List.map_toArray, List.map_cons, List.map_nil]); first | done | rfl | (simp only [List.length_drop, List.length_take]; rfl)) ?_
                with_reducible refine (klaxonref08_Num.calls 333 t280 t281 _ A20.out).mono ?_
                rintro e w81 ⟨rfl, hb⟩
                refine ⟨_, rfl, ?_⟩
                have n0_ := Aside0.mk (Kd.R_below (by (with_reducible repeat (first | apply Kd.R_alloc | apply Kd.R_drewN | apply Kd.R_drew)); exact HO233.out) hb)
                have n1_ := Aside0.mk (Kd.R_below (by (with_reducible repeat (first | apply Kd.R_alloc | apply Kd.R_drewN | apply Kd.R_drew)); exact HO244.out) hb)
                have n2_ := Aside0.mk (Kd.R_below (by (with_reducible repeat (first | apply Kd.R_alloc | apply Kd.R_drewN | apply Kd.R_drew)); exact HO255.out) hb)
                have n3_ := Aside0.mk (Kd.R_below (by (with_reducible repeat (first | apply Kd.R_alloc | apply Kd.R_drewN | apply Kd.R_drew)); exact HO266.out) hb)
                have n4_ := Aside0.mk (blk_below (g := gb237) (o := .cells #[.int .i64 t234, .int .i64 t235] 25 (0, 0)) (by (with_reducible repeat (first | refine blk_drewN ?_ _ | refine blk_drew ?_ | refine blk_alloc ?_ _)); exact BK237.out) hb)
                have n5_ := Aside0.mk (blk_below (g := gb248) (o := .cells #[.int .i64 t245, .int .i64 t246] 25 (0, 0)) (by (with_reducible repeat (first | refine blk_drewN ?_ _ | refine blk_drew ?_ | refine blk_alloc ?_ _)); exact BK248.out) hb)
                have n6_ := Aside0.mk (blk_below (g := gb259) (o := .cells #[.int .i64 t256, .int .i64 t257] 25 (0, 0)) (by (with_reducible repeat (first | refine blk_drewN ?_ _ | refine blk_drew ?_ | refine blk_alloc ?_ _)); exact BK259.out) hb)
                have n7_ := Aside0.mk (blk_below (g := gb270) (o := .cells #[.int .i64 t267, .int .i64 t268] 25 (0, 0)) (by (with_reducible repeat (first | refine blk_drewN ?_ _ | refine blk_drew ?_ | refine blk_alloc ?_ _)); exact BK270.out) hb)
                have n8_ := Aside0.mk (blk_below (g := gb274) (o := .cells #[.int .i64 t271, .int .i64 t272] 25 (0, 0)) (by (with_reducible repeat (first | refine blk_drewN ?_ _ | refine blk_drew ?_ | refine blk_alloc ?_ _)); exact BK274.out) hb)
                have n9_ := Aside0.mk (below_step (by repeat (first | (with_reducible first | exact HB.out | apply below_alloc | apply pw_below_drewN | apply below_drew1 | refine below_set ?_ GE237.out | refine below_set ?_ GE248.out | refine below_set ?_ GE259.out | refine below_set ?_ GE270.out | refine below_set ?_ GE274.out) | exact HB.out)) hb)
                clear HO233
                clear HO244
                clear HO255
                clear HO266
                clear BK237
                clear BK248
                clear BK259
                clear BK270
                clear BK274
                clear HB
                have HO233 := n0_
                have HO244 := n1_
                have HO255 := n2_
                have HO266 := n3_
                have BK237 := n4_
                have BK248 := n5_
                have BK259 := n6_
                have BK270 := n7_
                have BK274 := n8_
                have HB := n9_
                clear n0_ n1_ n2_ n3_ n4_ n5_ n6_ n7_ n8_ n9_
                (try clear hb)
                (try clear hb2)
                (try clear hk)
                (try clear hi)
                refine hK.out _ _ ⟨(blk_cell BK237.out 0).trans rfl, (blk_cell BK237.out 1).trans rfl, (blk_cell BK248.out 0).trans rfl, (blk_cell BK248.out 1).trans rfl, (blk_cell BK259.out 0).trans rfl, (blk_cell BK259.out 1).trans rfl, (blk_cell BK270.out 0).trans rfl, (blk_cell BK270.out 1).trans rfl, (blk_cell BK274.out 0).trans rfl, (blk_cell BK274.out 1).trans rfl⟩ (fun hHeld => ?_)
                clear hK K
                refine norm_ (a' := ?_) ?_ ?_
                rotate_left
                · show Act.put _ (some 60) _ = _
                  simp only [Act.put, List.setIfInBounds_toArray, List.set_cons_zero, List.set_cons_succ, i64_w, i32_w]
                  rfl
                refine pure_ (i := 18) (N := some 61) (v := ?_) (a' := ?_) #[true, true, true, true, true, true, true, true, true, true, true, true, true, true, true, true, true, true, true, false, false, false, false, false, false, false, false, false, false, false, false, false, false, false, false, false, false, false, false, false, false, false, false, false, false, false, false, false, false, false, false, false, false] rfl rfl (any_of HT_.out (by kernel_rfl)) (fun _ _ _ h => h) (Or.inl ⟨by rfl, ?_⟩) ?_ ?_
                rotate_left
                · intro w'
                  go_simp
                  with_reducible rfl
                rotate_left
                · simp only [Act.put, List.setIfInBounds_toArray, List.set_cons_zero, List.set_cons_succ, i64_w, i32_w]
                  rfl
                refine pure_ (i := 19) (N := some 62) (v := ?_) (a' := ?_) #[true, true, true, true, true, true, true, true, true, true, true, true, true, true, true, true, true, true, true, true, false, false, false, false, false, false, false, false, false, false, false, false, false, false, false, false, false, false, false, false, false, false, false, false, false, false, false, false, false, false, false, false, false] rfl rfl (any_of HT_.out (by kernel_rfl)) (fun _ _ _ h => h) (Or.inl ⟨by rfl, ?_⟩) ?_ ?_
                rotate_left
                · intro w'
                  go_simp
                  with_reducible rfl
                rotate_left
                · simp only [Act.put, List.setIfInBounds_toArray, List.set_cons_zero, List.set_cons_succ, i64_w, i32_w]
                  rfl
                refine pure_ (i := 20) (N := some 63) (v := ?_) (a' := ?_) #[true, true, true, true, true, true, true, true, true, true, true, true, true, true, true, true, true, true, true, true, true, false, false, false, false, false, false, false, false, false, false, false, false, false, false, false, false, false, false, false, false, false, false, false, false, false, false, false, false, false, false, false, false] rfl rfl (any_of HT_.out (by kernel_rfl)) (fun _ _ _ h => h) (Or.inl ⟨by rfl, ?_⟩) ?_ ?_
                rotate_left
                · intro w'
                  go_simp
                  with_reducible rfl
                rotate_left
                · simp only [Act.put, List.setIfInBounds_toArray, List.set_cons_zero, List.set_cons_succ, i64_w, i32_w]
                  rfl
                refine take_ (i := 21) (N := some 64) (v := ?_) (a' := ?_) #[true, true, true, true, true, true, true, true, true, true, true, true, true, true, true, true, true, true, true, true, true, true, false, false, false, false, false, false, false, false, false, false, false, false, false, false, false, false, false, false, false, false, false, false, false, false, false, false, false, false, false, false, false] rfl rfl (take_ofW HT_.out HW_.out (by kernel_rfl)) (fun _ _ _ h => h) (Or.inl ⟨by rfl, ?_⟩) hHeld ?_ ?_
                rotate_left
                · rintro w' ⟨s0, s1, s2, s3, s4, s5, s6, s7, s8, s9⟩
                  go_simp
                  with_reducible rfl
                rotate_left
                · simp only [Act.put, List.setIfInBounds_toArray, List.set_cons_zero, List.set_cons_succ, i64_w, i32_w]
                  rfl
                refine one_ (i := 22) (N := some 65) #[true, true, true, true, true, true, true, true, true, true, true, true, true, true, true, true, true, true, true, true, true, true, true, false, false, false, false, false, false, false, false, false, false, false, false, false, false, false, false, false, false, false, false, false, false, false, false, false, false, false, false, false, false] rfl rfl (one_of HT_.out (by kernel_rfl)) (by decide) (fun K hK => ?_)
                refine goes_ Tryz.func30 (by kernel_rfl) rfl #[] (by rfl) rfl rfl (by (try simp only [List.map_toArray, List.map_cons, List.map_nil]); first | done | rfl | (simp only [List.length_drop, List.length_take]; rfl)) ?_
                with_reducible refine (klaxonref08_Minus.calls  t282 t283 _ A22.out).mono ?_
                rintro e w82 ⟨rfl, hb⟩
                refine ⟨_, rfl, ?_⟩
                have n0_ := Aside0.mk (Kd.R_below (by (with_reducible repeat (first | apply Kd.R_alloc | apply Kd.R_drewN | apply Kd.R_drew)); exact HO233.out) hb)
                have n1_ := Aside0.mk (Kd.R_below (by (with_reducible repeat (first | apply Kd.R_alloc | apply Kd.R_drewN | apply Kd.R_drew)); exact HO244.out) hb)
                have n2_ := Aside0.mk (Kd.R_below (by (with_reducible repeat (first | apply Kd.R_alloc | apply Kd.R_drewN | apply Kd.R_drew)); exact HO255.out) hb)
                have n3_ := Aside0.mk (Kd.R_below (by (with_reducible repeat (first | apply Kd.R_alloc | apply Kd.R_drewN | apply Kd.R_drew)); exact HO266.out) hb)
                have n4_ := Aside0.mk (blk_below (g := gb237) (o := .cells #[.int .i64 t234, .int .i64 t235] 25 (0, 0)) (by (with_reducible repeat (first | refine blk_drewN ?_ _ | refine blk_drew ?_ | refine blk_alloc ?_ _)); exact BK237.out) hb)
                have n5_ := Aside0.mk (blk_below (g := gb248) (o := .cells #[.int .i64 t245, .int .i64 t246] 25 (0, 0)) (by (with_reducible repeat (first | refine blk_drewN ?_ _ | refine blk_drew ?_ | refine blk_alloc ?_ _)); exact BK248.out) hb)
                have n6_ := Aside0.mk (blk_below (g := gb259) (o := .cells #[.int .i64 t256, .int .i64 t257] 25 (0, 0)) (by (with_reducible repeat (first | refine blk_drewN ?_ _ | refine blk_drew ?_ | refine blk_alloc ?_ _)); exact BK259.out) hb)
                have n7_ := Aside0.mk (blk_below (g := gb270) (o := .cells #[.int .i64 t267, .int .i64 t268] 25 (0, 0)) (by (with_reducible repeat (first | refine blk_drewN ?_ _ | refine blk_drew ?_ | refine blk_alloc ?_ _)); exact BK270.out) hb)
                have n8_ := Aside0.mk (blk_below (g := gb274) (o := .cells #[.int .i64 t271, .int .i64 t272] 25 (0, 0)) (by (with_reducible repeat (first | refine blk_drewN ?_ _ | refine blk_drew ?_ | refine blk_alloc ?_ _)); exact BK274.out) hb)
                have n9_ := Aside0.mk (below_step (by repeat (first | (with_reducible first | exact HB.out | apply below_alloc | apply pw_below_drewN | apply below_drew1 | refine below_set ?_ GE237.out | refine below_set ?_ GE248.out | refine below_set ?_ GE259.out | refine below_set ?_ GE270.out | refine below_set ?_ GE274.out) | exact HB.out)) hb)
                clear HO233
                clear HO244
                clear HO255
                clear HO266
                clear BK237
                clear BK248
                clear BK259
                clear BK270
                clear BK274
                clear HB
                have HO233 := n0_
                have HO244 := n1_
                have HO255 := n2_
                have HO266 := n3_
                have BK237 := n4_
                have BK248 := n5_
                have BK259 := n6_
                have BK270 := n7_
                have BK274 := n8_
                have HB := n9_
                clear n0_ n1_ n2_ n3_ n4_ n5_ n6_ n7_ n8_ n9_
                (try clear hb)
                (try clear hb2)
                (try clear hk)
                (try clear hi)
                refine hK.out _ _ ⟨(blk_cell BK237.out 0).trans rfl, (blk_cell BK237.out 1).trans rfl, (blk_cell BK248.out 0).trans rfl, (blk_cell BK248.out 1).trans rfl, (blk_cell BK259.out 0).trans rfl, (blk_cell BK259.out 1).trans rfl, (blk_cell BK270.out 0).trans rfl, (blk_cell BK270.out 1).trans rfl, (blk_cell BK274.out 0).trans rfl, (blk_cell BK274.out 1).trans rfl⟩ (fun hHeld => ?_)
                clear hK K
                refine norm_ (a' := ?_) ?_ ?_
                rotate_left
                · show Act.put _ (some 65) _ = _
                  simp only [Act.put, List.setIfInBounds_toArray, List.set_cons_zero, List.set_cons_succ, i64_w, i32_w]
                  rfl
                refine pure_ (i := 23) (N := some 66) (v := ?_) (a' := ?_) #[true, true, true, true, true, true, true, true, true, true, true, true, true, true, true, true, true, true, true, true, true, true, true, true, false, false, false, false, false, false, false, false, false, false, false, false, false, false, false, false, false, false, false, false, false, false, false, false, false, false, false, false, false] rfl rfl (any_of HT_.out (by kernel_rfl)) (fun _ _ _ h => h) (Or.inl ⟨by rfl, ?_⟩) ?_ ?_
                rotate_left
                · intro w'
                  go_simp
                  with_reducible rfl
                rotate_left
                · simp only [Act.put, List.setIfInBounds_toArray, List.set_cons_zero, List.set_cons_succ, i64_w, i32_w]
                  rfl
                refine pure_ (i := 24) (N := some 67) (v := ?_) (a' := ?_) #[true, true, true, true, true, true, true, true, true, true, true, true, true, true, true, true, true, true, true, true, true, true, true, true, true, false, false, false, false, false, false, false, false, false, false, false, false, false, false, false, false, false, false, false, false, false, false, false, false, false, false, false, false] rfl rfl (any_of HT_.out (by kernel_rfl)) (fun _ _ _ h => h) (Or.inl ⟨by rfl, ?_⟩) ?_ ?_
                rotate_left
                · intro w'
                  go_simp
                  with_reducible rfl
                rotate_left
                · simp only [Act.put, List.setIfInBounds_toArray, List.set_cons_zero, List.set_cons_succ, i64_w, i32_w]
                  rfl
                refine pure_ (i := 25) (N := some 68) (v := ?_) (a' := ?_) #[true, true, true, true, true, true, true, true, true, true, true, true, true, true, true, true, true, true, true, true, true, true, true, true, true, true, false, false, false, false, false, false, false, false, false, false, false, false, false, false, false, false, false, false, false, false, false, false, false, false, false, false, false] rfl rfl (any_of HT_.out (by kernel_rfl)) (fun _ _ _ h => h) (Or.inl ⟨by rfl, ?_⟩) ?_ ?_
                rotate_left
                · intro w'
                  go_simp
                  with_reducible rfl
                rotate_left
                · simp only [Act.put, List.setIfInBounds_toArray, List.set_cons_zero, List.set_cons_succ, i64_w, i32_w]
                  rfl
                refine take_ (i := 26) (N := some 69) (v := ?_) (a' := ?_) #[true, true, true, true, true, true, true, true, true, true, true, true, true, true, true, true, true, true, true, true, true, true, true, true, true, true, true, false, false, false, false, false, false, false, false, false, false, false, false, false, false, false, false, false, false, false, false, false, false, false, false, false, false] rfl rfl (take_ofW HT_.out HW_.out (by kernel_rfl)) (fun _ _ _ h => h) (Or.inl ⟨by rfl, ?_⟩) hHeld ?_ ?_
                rotate_left
                · rintro w' ⟨s0, s1, s2, s3, s4, s5, s6, s7, s8, s9⟩
                  go_simp
                  with_reducible rfl
                rotate_left
                · simp only [Act.put, List.setIfInBounds_toArray, List.set_cons_zero, List.set_cons_succ, i64_w, i32_w]
                  rfl
                refine one_ (i := 27) (N := some 70) #[true, true, true, true, true, true, true, true, true, true, true, true, true, true, true, true, true, true, true, true, true, true, true, true, true, true, true, true, false, false, false, false, false, false, false, false, false, false, false, false, false, false, false, false, false, false, false, false, false, false, false, false, false] rfl rfl (one_of HT_.out (by kernel_rfl)) (by decide) (fun K hK => ?_)
                refine goes_ Tryz.func24 (by kernel_rfl) rfl #[] (by rfl) rfl rfl (by (try simp only [List.map_toArray, List.map_cons, List.map_nil]); first | done | rfl | (simp only [List.length_drop, List.length_take]; rfl)) ?_
                with_reducible refine (klaxonref08_Null.calls  t284 t285 _ A24.out).mono ?_
                rintro e w83 ⟨rfl, hb⟩
                refine ⟨_, rfl, ?_⟩
                have n0_ := Aside0.mk (Kd.R_below (by (with_reducible repeat (first | apply Kd.R_alloc | apply Kd.R_drewN | apply Kd.R_drew)); exact HO233.out) hb)
                have n1_ := Aside0.mk (Kd.R_below (by (with_reducible repeat (first | apply Kd.R_alloc | apply Kd.R_drewN | apply Kd.R_drew)); exact HO244.out) hb)
                have n2_ := Aside0.mk (Kd.R_below (by (with_reducible repeat (first | apply Kd.R_alloc | apply Kd.R_drewN | apply Kd.R_drew)); exact HO255.out) hb)
                have n3_ := Aside0.mk (Kd.R_below (by (with_reducible repeat (first | apply Kd.R_alloc | apply Kd.R_drewN | apply Kd.R_drew)); exact HO266.out) hb)
                have n4_ := Aside0.mk (blk_below (g := gb237) (o := .cells #[.int .i64 t234, .int .i64 t235] 25 (0, 0)) (by (with_reducible repeat (first | refine blk_drewN ?_ _ | refine blk_drew ?_ | refine blk_alloc ?_ _)); exact BK237.out) hb)
                have n5_ := Aside0.mk (blk_below (g := gb248) (o := .cells #[.int .i64 t245, .int .i64 t246] 25 (0, 0)) (by (with_reducible repeat (first | refine blk_drewN ?_ _ | refine blk_drew ?_ | refine blk_alloc ?_ _)); exact BK248.out) hb)
                have n6_ := Aside0.mk (blk_below (g := gb259) (o := .cells #[.int .i64 t256, .int .i64 t257] 25 (0, 0)) (by (with_reducible repeat (first | refine blk_drewN ?_ _ | refine blk_drew ?_ | refine blk_alloc ?_ _)); exact BK259.out) hb)
                have n7_ := Aside0.mk (blk_below (g := gb270) (o := .cells #[.int .i64 t267, .int .i64 t268] 25 (0, 0)) (by (with_reducible repeat (first | refine blk_drewN ?_ _ | refine blk_drew ?_ | refine blk_alloc ?_ _)); exact BK270.out) hb)
                have n8_ := Aside0.mk (blk_below (g := gb274) (o := .cells #[.int .i64 t271, .int .i64 t272] 25 (0, 0)) (by (with_reducible repeat (first | refine blk_drewN ?_ _ | refine blk_drew ?_ | refine blk_alloc ?_ _)); exact BK274.out) hb)
                have n9_ := Aside0.mk (below_step (by repeat (first | (with_reducible first | exact HB.out | apply below_alloc | apply pw_below_drewN | apply below_drew1 | refine below_set ?_ GE237.out | refine below_set ?_ GE248.out | refine below_set ?_ GE259.out | refine below_set ?_ GE270.out | refine below_set ?_ GE274.out) | exact HB.out)) hb)
                clear HO233
                clear HO244
                clear HO255
                clear HO266
                clear BK237
                clear BK248
                clear BK259
                clear BK270
                clear BK274
                clear HB
                have HO233 := n0_
                have HO244 := n1_
                have HO255 := n2_
                have HO266 := n3_
                have BK237 := n4_
                have BK248 := n5_
                have BK259 := n6_
                have BK270 := n7_
                have BK274 := n8_
                have HB := n9_
                clear n0_ n1_ n2_ n3_ n4_ n5_ n6_ n7_ n8_ n9_
                (try clear hb)
                (try clear hb2)
                (try clear hk)
                (try clear hi)
                refine hK.out _ _ ⟨(blk_cell BK237.out 0).trans rfl, (blk_cell BK237.out 1).trans rfl, (blk_cell BK248.out 0).trans rfl, (blk_cell BK248.out 1).trans rfl, (blk_cell BK259.out 0).trans rfl, (blk_cell BK259.out 1).trans rfl, (blk_cell BK270.out 0).trans rfl, (blk_cell BK270.out 1).trans rfl, (blk_cell BK274.out 0).trans rfl, (blk_cell BK274.out 1).trans rfl⟩ (fun hHeld => ?_)
                clear hK K
                refine norm_ (a' := ?_) ?_ ?_
                rotate_left
                · show Act.put _ (some 70) _ = _
                  simp only [Act.put, List.setIfInBounds_toArray, List.set_cons_zero, List.set_cons_succ, i64_w, i32_w]
                  rfl
                refine pure_ (i := 28) (N := some 71) (v := ?_) (a' := ?_) #[true, true, true, true, true, true, true, true, true, true, true, true, true, true, true, true, true, true, true, true, true, true, true, true, true, true, true, true, true, false, false, false, false, false, false, false, false, false, false, false, false, false, false, false, false, false, false, false, false, false, false, false, false] rfl rfl (any_of HT_.out (by kernel_rfl)) (fun _ _ _ h => h) (Or.inl ⟨by rfl, ?_⟩) ?_ ?_
                rotate_left
                · intro w'
                  go_simp
                  with_reducible rfl
                rotate_left
                · simp only [Act.put, List.setIfInBounds_toArray, List.set_cons_zero, List.set_cons_succ, i64_w, i32_w]
                  rfl
                refine pure_ (i := 29) (N := some 72) (v := ?_) (a' := ?_) #[true, true, true, true, true, true, true, true, true, true, true, true, true, true, true, true, true, true, true, true, true, true, true, true, true, true, true, true, true, true, false, false, false, false, false, false, false, false, false, false, false, false, false, false, false, false, false, false, false, false, false, false, false] rfl rfl (any_of HT_.out (by kernel_rfl)) (fun _ _ _ h => h) (Or.inl ⟨by rfl, ?_⟩) ?_ ?_
                rotate_left
                · intro w'
                  go_simp
                  with_reducible rfl
                rotate_left
                · simp only [Act.put, List.setIfInBounds_toArray, List.set_cons_zero, List.set_cons_succ, i64_w, i32_w]
                  rfl
                refine pure_ (i := 30) (N := some 73) (v := ?_) (a' := ?_) #[true, true, true, true, true, true, true, true, true, true, true, true, true, true, true, true, true, true, true, true, true, true, true, true, true, true, true, true, true, true, true, false, false, false, false, false, false, false, false, false, false, false, false, false, false, false, false, false, false, false, false, false, false] rfl rfl (any_of HT_.out (by kernel_rfl)) (fun _ _ _ h => h) (Or.inl ⟨by rfl, ?_⟩) ?_ ?_
                rotate_left
                · intro w'
                  go_simp
                  with_reducible rfl
                rotate_left
                · simp only [Act.put, List.setIfInBounds_toArray, List.set_cons_zero, List.set_cons_succ, i64_w, i32_w]
                  rfl
                refine take_ (i := 31) (N := some 74) (v := ?_) (a' := ?_) #[true, true, true, true, true, true, true, true, true, true, true, true, true, true, true, true, true, true, true, true, true, true, true, true, true, true, true, true, true, true, true, true, false, false, false, false, false, false, false, false, false, false, false, false, false, false, false, false, false, false, false, false, false] rfl rfl (take_ofW HT_.out HW_.out (by kernel_rfl)) (fun _ _ _ h => h) (Or.inl ⟨by rfl, ?_⟩) hHeld ?_ ?_
                rotate_left
                · rintro w' ⟨s0, s1, s2, s3, s4, s5, s6, s7, s8, s9⟩
                  go_simp
                  with_reducible rfl
                rotate_left
                · simp only [Act.put, List.setIfInBounds_toArray, List.set_cons_zero, List.set_cons_succ, i64_w, i32_w]
                  rfl
                refine one_ (i := 32) (N := some 75) #[true, true, true, true, true, true, true, true, true, true, true, true, true, true, true, true, true, true, true, true, true, true, true, true, true, true, true, true, true, true, true, true, true, false, false, false, false, false, false, false, false, false, false, false, false, false, false, false, false, false, false, false, false] rfl rfl (one_of HT_.out (by kernel_rfl)) (by decide) (fun K hK => ?_)
                refine goes_ Tryz.func20 (by kernel_rfl) rfl #[.int .i64 1000] (by rfl) rfl rfl (by (try simp only [List.map_toArray, List.map_cons, List.map_nil]); first | done | rfl | (simp only [List.length_drop, List.length_take]; rfl)) ?_
                with_reducible refine (klaxonref08_Num.calls 1000 t286 t287 _ A26.out).mono ?_
                rintro e w84 ⟨rfl, hb⟩
                refine ⟨_, rfl, ?_⟩
                have n0_ := Aside0.mk (Kd.R_below (by (with_reducible repeat (first | apply Kd.R_alloc | apply Kd.R_drewN | apply Kd.R_drew)); exact HO233.out) hb)
                have n1_ := Aside0.mk (Kd.R_below (by (with_reducible repeat (first | apply Kd.R_alloc | apply Kd.R_drewN | apply Kd.R_drew)); exact HO244.out) hb)
                have n2_ := Aside0.mk (Kd.R_below (by (with_reducible repeat (first | apply Kd.R_alloc | apply Kd.R_drewN | apply Kd.R_drew)); exact HO255.out) hb)
                have n3_ := Aside0.mk (Kd.R_below (by (with_reducible repeat (first | apply Kd.R_alloc | apply Kd.R_drewN | apply Kd.R_drew)); exact HO266.out) hb)
                have n4_ := Aside0.mk (blk_below (g := gb237) (o := .cells #[.int .i64 t234, .int .i64 t235] 25 (0, 0)) (by (with_reducible repeat (first | refine blk_drewN ?_ _ | refine blk_drew ?_ | refine blk_alloc ?_ _)); exact BK237.out) hb)
                have n5_ := Aside0.mk (blk_below (g := gb248) (o := .cells #[.int .i64 t245, .int .i64 t246] 25 (0, 0)) (by (with_reducible repeat (first | refine blk_drewN ?_ _ | refine blk_drew ?_ | refine blk_alloc ?_ _)); exact BK248.out) hb)
                have n6_ := Aside0.mk (blk_below (g := gb259) (o := .cells #[.int .i64 t256, .int .i64 t257] 25 (0, 0)) (by (with_reducible repeat (first | refine blk_drewN ?_ _ | refine blk_drew ?_ | refine blk_alloc ?_ _)); exact BK259.out) hb)
                have n7_ := Aside0.mk (blk_below (g := gb270) (o := .cells #[.int .i64 t267, .int .i64 t268] 25 (0, 0)) (by (with_reducible repeat (first | refine blk_drewN ?_ _ | refine blk_drew ?_ | refine blk_alloc ?_ _)); exact BK270.out) hb)
                have n8_ := Aside0.mk (blk_below (g := gb274) (o := .cells #[.int .i64 t271, .int .i64 t272] 25 (0, 0)) (by (with_reducible repeat (first | refine blk_drewN ?_ _ | refine blk_drew ?_ | refine blk_alloc ?_ _)); exact BK274.out) hb)
                have n9_ := Aside0.mk (below_step (by repeat (first | (with_reducible first | exact HB.out | apply below_alloc | apply pw_below_drewN | apply below_drew1 | refine below_set ?_ GE237.out | refine below_set ?_ GE248.out | refine below_set ?_ GE259.out | refine below_set ?_ GE270.out | refine below_set ?_ GE274.out) | exact HB.out)) hb)
                clear HO233
                clear HO244
                clear HO255
                clear HO266
                clear BK237
                clear BK248
                clear BK259
                clear BK270
                clear BK274
                clear HB
                have HO233 := n0_
                have HO244 := n1_
                have HO255 := n2_
                have HO266 := n3_
                have BK237 := n4_
                have BK248 := n5_
                have BK259 := n6_
                have BK270 := n7_
                have BK274 := n8_
                have HB := n9_
                clear n0_ n1_ n2_ n3_ n4_ n5_ n6_ n7_ n8_ n9_
                (try clear hb)
                (try clear hb2)
                (try clear hk)
                (try clear hi)
                refine hK.out _ _ ⟨(blk_cell BK237.out 0).trans rfl, (blk_cell BK237.out 1).trans rfl, (blk_cell BK248.out 0).trans rfl, (blk_cell BK248.out 1).trans rfl, (blk_cell BK259.out 0).trans rfl, (blk_cell BK259.out 1).trans rfl, (blk_cell BK270.out 0).trans rfl, (blk_cell BK270.out 1).trans rfl, (blk_cell BK274.out 0).trans rfl, (blk_cell BK274.out 1).trans rfl⟩ (fun hHeld => ?_)
                clear hK K
                refine norm_ (a' := ?_) ?_ ?_
                rotate_left
                · show Act.put _ (some 75) _ = _
                  simp only [Act.put, List.setIfInBounds_toArray, List.set_cons_zero, List.set_cons_succ, i64_w, i32_w]
                  rfl
                refine pure_ (i := 33) (N := some 76) (v := ?_) (a' := ?_) #[true, true, true, true, true, true, true, true, true, true, true, true, true, true, true, true, true, true, true, true, true, true, true, true, true, true, true, true, true, true, true, true, true, true, false, false, false, false, false, false, false, false, false, false, false, false, false, false, false, false, false, false, false] rfl rfl (any_of HT_.out (by kernel_rfl)) (fun _ _ _ h => h) (Or.inl ⟨by rfl, ?_⟩) ?_ ?_
                rotate_left
                · intro w'
                  go_simp
                  with_reducible rfl
                rotate_left
                · simp only [Act.put, List.setIfInBounds_toArray, List.set_cons_zero, List.set_cons_succ, i64_w, i32_w]
                  rfl
                refine pure_ (i := 34) (N := some 77) (v := ?_) (a' := ?_) #[true, true, true, true, true, true, true, true, true, true, true, true, true, true, true, true, true, true, true, true, true, true, true, true, true, true, true, true, true, true, true, true, true, true, true, false, false, false, false, false, false, false, false, false, false, false, false, false, false, false, false, false, false] rfl rfl (any_of HT_.out (by kernel_rfl)) (fun _ _ _ h => h) (Or.inl ⟨by rfl, ?_⟩) ?_ ?_
                rotate_left
                · intro w'
                  go_simp
                  with_reducible rfl
                rotate_left
                · simp only [Act.put, List.setIfInBounds_toArray, List.set_cons_zero, List.set_cons_succ, i64_w, i32_w]
                  rfl
                refine pure_ (i := 35) (N := some 78) (v := ?_) (a' := ?_) #[true, true, true, true, true, true, true, true, true, true, true, true, true, true, true, true, true, true, true, true, true, true, true, true, true, true, true, true, true, true, true, true, true, true, true, true, false, false, false, false, false, false, false, false, false, false, false, false, false, false, false, false, false] rfl rfl (any_of HT_.out (by kernel_rfl)) (fun _ _ _ h => h) (Or.inl ⟨by rfl, ?_⟩) ?_ ?_
                rotate_left
                · intro w'
                  go_simp
                  with_reducible rfl
                rotate_left
                · simp only [Act.put, List.setIfInBounds_toArray, List.set_cons_zero, List.set_cons_succ, i64_w, i32_w]
                  rfl
                refine take_ (i := 36) (N := some 79) (v := ?_) (a' := ?_) #[true, true, true, true, true, true, true, true, true, true, true, true, true, true, true, true, true, true, true, true, true, true, true, true, true, true, true, true, true, true, true, true, true, true, true, true, true, false, false, false, false, false, false, false, false, false, false, false, false, false, false, false, false] rfl rfl (take_ofW HT_.out HW_.out (by kernel_rfl)) (fun _ _ _ h => h) (Or.inl ⟨by rfl, ?_⟩) hHeld ?_ ?_
                rotate_left
                · rintro w' ⟨s0, s1, s2, s3, s4, s5, s6, s7, s8, s9⟩
                  go_simp
                  with_reducible rfl
                rotate_left
                · simp only [Act.put, List.setIfInBounds_toArray, List.set_cons_zero, List.set_cons_succ, i64_w, i32_w]
                  rfl
                refine one_ (i := 37) (N := some 80) #[true, true, true, true, true, true, true, true, true, true, true, true, true, true, true, true, true, true, true, true, true, true, true, true, true, true, true, true, true, true, true, true, true, true, true, true, true, true, false, false, false, false, false, false, false, false, false, false, false, false, false, false, false] rfl rfl (one_of HT_.out (by kernel_rfl)) (by decide) (fun K hK => ?_)
                refine goes_ Tryz.func20 (by kernel_rfl) rfl #[.int .i64 (-12050)] (by rfl) rfl rfl (by (try simp only [List.map_toArray, List.map_cons, List.map_nil]); first | done | rfl | (simp only [List.length_drop, List.length_take]; rfl)) ?_
                with_reducible refine (klaxonref08_Num.calls (-12050) t288 t289 _ A28.out).mono ?_
                rintro e w85 ⟨rfl, hb⟩
                refine ⟨_, rfl, ?_⟩
                have n0_ := Aside0.mk (Kd.R_below (by (with_reducible repeat (first | apply Kd.R_alloc | apply Kd.R_drewN | apply Kd.R_drew)); exact HO233.out) hb)
                have n1_ := Aside0.mk (Kd.R_below (by (with_reducible repeat (first | apply Kd.R_alloc | apply Kd.R_drewN | apply Kd.R_drew)); exact HO244.out) hb)
                have n2_ := Aside0.mk (Kd.R_below (by (with_reducible repeat (first | apply Kd.R_alloc | apply Kd.R_drewN | apply Kd.R_drew)); exact HO255.out) hb)
                have n3_ := Aside0.mk (Kd.R_below (by (with_reducible repeat (first | apply Kd.R_alloc | apply Kd.R_drewN | apply Kd.R_drew)); exact HO266.out) hb)
                have n4_ := Aside0.mk (blk_below (g := gb237) (o := .cells #[.int .i64 t234, .int .i64 t235] 25 (0, 0)) (by (with_reducible repeat (first | refine blk_drewN ?_ _ | refine blk_drew ?_ | refine blk_alloc ?_ _)); exact BK237.out) hb)
                have n5_ := Aside0.mk (blk_below (g := gb248) (o := .cells #[.int .i64 t245, .int .i64 t246] 25 (0, 0)) (by (with_reducible repeat (first | refine blk_drewN ?_ _ | refine blk_drew ?_ | refine blk_alloc ?_ _)); exact BK248.out) hb)
                have n6_ := Aside0.mk (blk_below (g := gb259) (o := .cells #[.int .i64 t256, .int .i64 t257] 25 (0, 0)) (by (with_reducible repeat (first | refine blk_drewN ?_ _ | refine blk_drew ?_ | refine blk_alloc ?_ _)); exact BK259.out) hb)
                have n7_ := Aside0.mk (blk_below (g := gb270) (o := .cells #[.int .i64 t267, .int .i64 t268] 25 (0, 0)) (by (with_reducible repeat (first | refine blk_drewN ?_ _ | refine blk_drew ?_ | refine blk_alloc ?_ _)); exact BK270.out) hb)
                have n8_ := Aside0.mk (blk_below (g := gb274) (o := .cells #[.int .i64 t271, .int .i64 t272] 25 (0, 0)) (by (with_reducible repeat (first | refine blk_drewN ?_ _ | refine blk_drew ?_ | refine blk_alloc ?_ _)); exact BK274.out) hb)
                have n9_ := Aside0.mk (below_step (by repeat (first | (with_reducible first | exact HB.out | apply below_alloc | apply pw_below_drewN | apply below_drew1 | refine below_set ?_ GE237.out | refine below_set ?_ GE248.out | refine below_set ?_ GE259.out | refine below_set ?_ GE270.out | refine below_set ?_ GE274.out) | exact HB.out)) hb)
                clear HO233
                clear HO244
                clear HO255
                clear HO266
                clear BK237
                clear BK248
                clear BK259
                clear BK270
                clear BK274
                clear HB
                have HO233 := n0_
                have HO244 := n1_
                have HO255 := n2_
                have HO266 := n3_
                have BK237 := n4_
                have BK248 := n5_
                have BK259 := n6_
                have BK270 := n7_
                have BK274 := n8_
                have HB := n9_
                clear n0_ n1_ n2_ n3_ n4_ n5_ n6_ n7_ n8_ n9_
                (try clear hb)
                (try clear hb2)
                (try clear hk)
                (try clear hi)
                refine hK.out _ _ ⟨(blk_cell BK237.out 0).trans rfl, (blk_cell BK237.out 1).trans rfl, (blk_cell BK248.out 0).trans rfl, (blk_cell BK248.out 1).trans rfl, (blk_cell BK259.out 0).trans rfl, (blk_cell BK259.out 1).trans rfl, (blk_cell BK270.out 0).trans rfl, (blk_cell BK270.out 1).trans rfl, (blk_cell BK274.out 0).trans rfl, (blk_cell BK274.out 1).trans rfl⟩ (fun hHeld => ?_)
                clear hK K
                refine norm_ (a' := ?_) ?_ ?_
                rotate_left
                · show Act.put _ (some 80) _ = _
                  simp only [Act.put, List.setIfInBounds_toArray, List.set_cons_zero, List.set_cons_succ, i64_w, i32_w]
                  rfl
                refine pure_ (i := 38) (N := some 81) (v := ?_) (a' := ?_) #[true, true, true, true, true, true, true, true, true, true, true, true, true, true, true, true, true, true, true, true, true, true, true, true, true, true, true, true, true, true, true, true, true, true, true, true, true, true, true, false, false, false, false, false, false, false, false, false, false, false, false, false, false] rfl rfl (any_of HT_.out (by kernel_rfl)) (fun _ _ _ h => h) (Or.inl ⟨by rfl, ?_⟩) ?_ ?_
                rotate_left
                · intro w'
                  go_simp
                  with_reducible rfl
                rotate_left
                · simp only [Act.put, List.setIfInBounds_toArray, List.set_cons_zero, List.set_cons_succ, i64_w, i32_w]
                  rfl
                refine pure_ (i := 39) (N := some 82) (v := ?_) (a' := ?_) #[true, true, true, true, true, true, true, true, true, true, true, true, true, true, true, true, true, true, true, true, true, true, true, true, true, true, true, true, true, true, true, true, true, true, true, true, true, true, true, true, false, false, false, false, false, false, false, false, false, false, false, false, false] rfl rfl (any_of HT_.out (by kernel_rfl)) (fun _ _ _ h => h) (Or.inl ⟨by rfl, ?_⟩) ?_ ?_
                rotate_left
                · intro w'
                  go_simp
                  with_reducible rfl
                rotate_left
                · simp only [Act.put, List.setIfInBounds_toArray, List.set_cons_zero, List.set_cons_succ, i64_w, i32_w]
                  rfl
                refine pure_ (i := 40) (N := some 83) (v := ?_) (a' := ?_) #[true, true, true, true, true, true, true, true, true, true, true, true, true, true, true, true, true, true, true, true, true, true, true, true, true, true, true, true, true, true, true, true, true, true, true, true, true, true, true, true, true, false, false, false, false, false, false, false, false, false, false, false, false] rfl rfl (any_of HT_.out (by kernel_rfl)) (fun _ _ _ h => h) (Or.inl ⟨by rfl, ?_⟩) ?_ ?_
                rotate_left
                · intro w'
                  go_simp
                  with_reducible rfl
                rotate_left
                · simp only [Act.put, List.setIfInBounds_toArray, List.set_cons_zero, List.set_cons_succ, i64_w, i32_w]
                  rfl
                refine take_ (i := 41) (N := some 84) (v := ?_) (a' := ?_) #[true, true, true, true, true, true, true, true, true, true, true, true, true, true, true, true, true, true, true, true, true, true, true, true, true, true, true, true, true, true, true, true, true, true, true, true, true, true, true, true, true, true, false, false, false, false, false, false, false, false, false, false, false] rfl rfl (take_ofW HT_.out HW_.out (by kernel_rfl)) (fun _ _ _ h => h) (Or.inl ⟨by rfl, ?_⟩) hHeld ?_ ?_
                rotate_left
                · rintro w' ⟨s0, s1, s2, s3, s4, s5, s6, s7, s8, s9⟩
                  go_simp
                  with_reducible rfl
                rotate_left
                · simp only [Act.put, List.setIfInBounds_toArray, List.set_cons_zero, List.set_cons_succ, i64_w, i32_w]
                  rfl
                refine one_ (i := 42) (N := some 85) #[true, true, true, true, true, true, true, true, true, true, true, true, true, true, true, true, true, true, true, true, true, true, true, true, true, true, true, true, true, true, true, true, true, true, true, true, true, true, true, true, true, true, true, false, false, false, false, false, false, false, false, false, false] rfl rfl (one_of HT_.out (by kernel_rfl)) (by decide) (fun K hK => ?_)
                refine goes_ Tryz.func33 (by kernel_rfl) rfl #[.agg #[.int .i64 t271, .int .i64 t272]] (by rfl) rfl rfl (by (try simp only [List.map_toArray, List.map_cons, List.map_nil]); first | done | rfl | (simp only [List.length_drop, List.length_take]; rfl)) ?_
                with_reducible refine (value_Print.calls t271 t272 t290 _ A30.out (HG.out.below (by repeat (first | (with_reducible first | exact HB.out | apply below_alloc | apply pw_below_drewN | apply below_drew1 | refine below_set ?_ GE237.out | refine below_set ?_ GE248.out | refine below_set ?_ GE259.out | refine below_set ?_ GE270.out | refine below_set ?_ GE274.out) | exact HB.out)))).mono ?_
                rintro e w86 ⟨rfl, hb⟩
                refine ⟨_, rfl, ?_⟩
                have n0_ := Aside0.mk (Kd.R_below (by (with_reducible repeat (first | apply Kd.R_alloc | apply Kd.R_drewN | apply Kd.R_drew)); exact HO233.out) hb)
                have n1_ := Aside0.mk (Kd.R_below (by (with_reducible repeat (first | apply Kd.R_alloc | apply Kd.R_drewN | apply Kd.R_drew)); exact HO244.out) hb)
                have n2_ := Aside0.mk (Kd.R_below (by (with_reducible repeat (first | apply Kd.R_alloc | apply Kd.R_drewN | apply Kd.R_drew)); exact HO255.out) hb)
                have n3_ := Aside0.mk (Kd.R_below (by (with_reducible repeat (first | apply Kd.R_alloc | apply Kd.R_drewN | apply Kd.R_drew)); exact HO266.out) hb)
                have n4_ := Aside0.mk (blk_below (g := gb237) (o := .cells #[.int .i64 t234, .int .i64 t235] 25 (0, 0)) (by (with_reducible repeat (first | refine blk_drewN ?_ _ | refine blk_drew ?_ | refine blk_alloc ?_ _)); exact BK237.out) hb)
                have n5_ := Aside0.mk (blk_below (g := gb248) (o := .cells #[.int .i64 t245, .int .i64 t246] 25 (0, 0)) (by (with_reducible repeat (first | refine blk_drewN ?_ _ | refine blk_drew ?_ | refine blk_alloc ?_ _)); exact BK248.out) hb)
                have n6_ := Aside0.mk (blk_below (g := gb259) (o := .cells #[.int .i64 t256, .int .i64 t257] 25 (0, 0)) (by (with_reducible repeat (first | refine blk_drewN ?_ _ | refine blk_drew ?_ | refine blk_alloc ?_ _)); exact BK259.out) hb)
                have n7_ := Aside0.mk (blk_below (g := gb270) (o := .cells #[.int .i64 t267, .int .i64 t268] 25 (0, 0)) (by (with_reducible repeat (first | refine blk_drewN ?_ _ | refine blk_drew ?_ | refine blk_alloc ?_ _)); exact BK270.out) hb)
                have n8_ := Aside0.mk (blk_below (g := gb274) (o := .cells #[.int .i64 t271, .int .i64 t272] 25 (0, 0)) (by (with_reducible repeat (first | refine blk_drewN ?_ _ | refine blk_drew ?_ | refine blk_alloc ?_ _)); exact BK274.out) hb)
                have n9_ := Aside0.mk (below_step (by repeat (first | (with_reducible first | exact HB.out | apply below_alloc | apply pw_below_drewN | apply below_drew1 | refine below_set ?_ GE237.out | refine below_set ?_ GE248.out | refine below_set ?_ GE259.out | refine below_set ?_ GE270.out | refine below_set ?_ GE274.out) | exact HB.out)) hb)
                clear HO233
                clear HO244
                clear HO255
                clear HO266
                clear BK237
                clear BK248
                clear BK259
                clear BK270
                clear BK274
                clear HB
                have HO233 := n0_
                have HO244 := n1_
                have HO255 := n2_
                have HO266 := n3_
                have BK237 := n4_
                have BK248 := n5_
                have BK259 := n6_
                have BK270 := n7_
                have BK274 := n8_
                have HB := n9_
                clear n0_ n1_ n2_ n3_ n4_ n5_ n6_ n7_ n8_ n9_
                (try clear hb)
                (try clear hb2)
                (try clear hk)
                (try clear hi)
                refine hK.out _ _ ⟨(blk_cell BK237.out 0).trans rfl, (blk_cell BK237.out 1).trans rfl, (blk_cell BK248.out 0).trans rfl, (blk_cell BK248.out 1).trans rfl, (blk_cell BK259.out 0).trans rfl, (blk_cell BK259.out 1).trans rfl, (blk_cell BK270.out 0).trans rfl, (blk_cell BK270.out 1).trans rfl, (blk_cell BK274.out 0).trans rfl, (blk_cell BK274.out 1).trans rfl⟩ (fun hHeld => ?_)
                clear hK K
                refine norm_ (a' := ?_) ?_ ?_
                rotate_left
                · show Act.put _ (some 85) _ = _
                  simp only [Act.put, List.setIfInBounds_toArray, List.set_cons_zero, List.set_cons_succ, i64_w, i32_w]
                  rfl
                refine pure_ (i := 43) (N := some 86) (v := ?_) (a' := ?_) #[true, true, true, true, true, true, true, true, true, true, true, true, true, true, true, true, true, true, true, true, true, true, true, true, true, true, true, true, true, true, true, true, true, true, true, true, true, true, true, true, true, true, true, true, false, false, false, false, false, false, false, false, false] rfl rfl (any_of HT_.out (by kernel_rfl)) (fun _ _ _ h => h) (Or.inl ⟨by rfl, ?_⟩) ?_ ?_
                rotate_left
                · intro w'
                  go_simp
                  with_reducible rfl
                rotate_left
                · simp only [Act.put, List.setIfInBounds_toArray, List.set_cons_zero, List.set_cons_succ, i64_w, i32_w]
                  rfl
                refine pure_ (i := 44) (N := some 87) (v := ?_) (a' := ?_) #[true, true, true, true, true, true, true, true, true, true, true, true, true, true, true, true, true, true, true, true, true, true, true, true, true, true, true, true, true, true, true, true, true, true, true, true, true, true, true, true, true, true, true, true, true, false, false, false, false, false, false, false, false] rfl rfl (any_of HT_.out (by kernel_rfl)) (fun _ _ _ h => h) (Or.inl ⟨by rfl, ?_⟩) ?_ ?_
                rotate_left
                · intro w'
                  go_simp
                  with_reducible rfl
                rotate_left
                · simp only [Act.put, List.setIfInBounds_toArray, List.set_cons_zero, List.set_cons_succ, i64_w, i32_w]
                  rfl
                refine pure_ (i := 45) (N := some 88) (v := ?_) (a' := ?_) #[true, true, true, true, true, true, true, true, true, true, true, true, true, true, true, true, true, true, true, true, true, true, true, true, true, true, true, true, true, true, true, true, true, true, true, true, true, true, true, true, true, true, true, true, true, true, false, false, false, false, false, false, false] rfl rfl (any_of HT_.out (by kernel_rfl)) (fun _ _ _ h => h) (Or.inl ⟨by rfl, ?_⟩) ?_ ?_
                rotate_left
                · intro w'
                  go_simp
                  with_reducible rfl
                rotate_left
                · simp only [Act.put, List.setIfInBounds_toArray, List.set_cons_zero, List.set_cons_succ, i64_w, i32_w]
                  rfl
                refine pure_ (i := 46) (N := some 89) (v := ?_) (a' := ?_) #[true, true, true, true, true, true, true, true, true, true, true, true, true, true, true, true, true, true, true, true, true, true, true, true, true, true, true, true, true, true, true, true, true, true, true, true, true, true, true, true, true, true, true, true, true, true, true, false, false, false, false, false, false] rfl rfl (any_of HT_.out (by kernel_rfl)) (fun _ _ _ h => h) (Or.inl ⟨by rfl, ?_⟩) ?_ ?_
                rotate_left
                · intro w'
                  go_simp
                  with_reducible rfl
                rotate_left
                · simp only [Act.put, List.setIfInBounds_toArray, List.set_cons_zero, List.set_cons_succ, i64_w, i32_w]
                  rfl
                refine one_ (i := 47) (N := some 90) #[true, true, true, true, true, true, true, true, true, true, true, true, true, true, true, true, true, true, true, true, true, true, true, true, true, true, true, true, true, true, true, true, true, true, true, true, true, true, true, true, true, true, true, true, true, true, true, true, false, false, false, false, false] rfl rfl (one_of HT_.out (by kernel_rfl)) (by decide) (fun K hK => ?_)
                refine Kd.R_lit_step k25 _ 25 ?hg (N := 90) ?hd (xs := ([(⟨0, 0⟩ : S25)] : List (S25))) (inner := [.int .i64 0, .int .i64 0]) (ok := fun _ => True) (okp := fun _ => True) ?hr ?hp (fun _ hk => hk) trivial (Below.refl _ _) (Nat.le_refl _) (by simp) ?_; (case hd => rfl); (case hg => rfl); (case hr => first | (go_simp; done) | (go_simp; rfl)); (case hp => exact (Reps.c2 (show Kd.M k25 _ _ _ (⟨0, 0⟩ : S25) [.int .i64 0, .int .i64 0] from (k25_mkM _ _ _ (⟨0, 0⟩ : S25) )) (Reps.none _ _)))
                intro v292 w87 ho88 hb hg_ hnew_
                clear hg_ hnew_
                (first | rw [← Ny291.out] at ho88 | (simp only [Int.reduceToNat] at ho88; rw [← Ny291.out] at ho88))
                have n0_ := Aside0.mk (Kd.R_elder' (by (with_reducible repeat (first | apply Kd.R_alloc | apply Kd.R_drewN | apply Kd.R_drew)); exact HO233.out) (Kd.R_base ho88) hb)
                have n1_ := Aside0.mk (Kd.R_elder' (by (with_reducible repeat (first | apply Kd.R_alloc | apply Kd.R_drewN | apply Kd.R_drew)); exact HO244.out) (Kd.R_base ho88) hb)
                have n2_ := Aside0.mk (Kd.R_elder' (by (with_reducible repeat (first | apply Kd.R_alloc | apply Kd.R_drewN | apply Kd.R_drew)); exact HO255.out) (Kd.R_base ho88) hb)
                have n3_ := Aside0.mk (Kd.R_elder' (by (with_reducible repeat (first | apply Kd.R_alloc | apply Kd.R_drewN | apply Kd.R_drew)); exact HO266.out) (Kd.R_base ho88) hb)
                have n4_ := Aside0.mk (Kd.R_lower (Kd.R_newB (Kd.R_newB (Kd.R_newB (Kd.R_newB (Kd.R_newB (Kd.R_new' (Kd.R_new' (Kd.R_new' (Kd.R_new' ho88 (Kd.R_lt (by (with_reducible repeat (first | apply Kd.R_alloc | apply Kd.R_drewN | apply Kd.R_drew)); exact HO233.out))) (Kd.R_lt (by (with_reducible repeat (first | apply Kd.R_alloc | apply Kd.R_drewN | apply Kd.R_drew)); exact HO244.out))) (Kd.R_lt (by (with_reducible repeat (first | apply Kd.R_alloc | apply Kd.R_drewN | apply Kd.R_drew)); exact HO255.out))) (Kd.R_lt (by (with_reducible repeat (first | apply Kd.R_alloc | apply Kd.R_drewN | apply Kd.R_drew)); exact HO266.out))) (g := gb237) (o := .cells #[.int .i64 t234, .int .i64 t235] 25 (0, 0)) (by (with_reducible repeat (first | refine blk_drewN ?_ _ | refine blk_drew ?_ | refine blk_alloc ?_ _)); exact BK237.out)) (g := gb248) (o := .cells #[.int .i64 t245, .int .i64 t246] 25 (0, 0)) (by (with_reducible repeat (first | refine blk_drewN ?_ _ | refine blk_drew ?_ | refine blk_alloc ?_ _)); exact BK248.out)) (g := gb259) (o := .cells #[.int .i64 t256, .int .i64 t257] 25 (0, 0)) (by (with_reducible repeat (first | refine blk_drewN ?_ _ | refine blk_drew ?_ | refine blk_alloc ?_ _)); exact BK259.out)) (g := gb270) (o := .cells #[.int .i64 t267, .int .i64 t268] 25 (0, 0)) (by (with_reducible repeat (first | refine blk_drewN ?_ _ | refine blk_drew ?_ | refine blk_alloc ?_ _)); exact BK270.out)) (g := gb274) (o := .cells #[.int .i64 t271, .int .i64 t272] 25 (0, 0)) (by (with_reducible repeat (first | refine blk_drewN ?_ _ | refine blk_drew ?_ | refine blk_alloc ?_ _)); exact BK274.out)) (below_size (by repeat (first | (with_reducible first | exact HB.out | apply below_alloc | apply pw_below_drewN | apply below_drew1 | refine below_set ?_ GE237.out | refine below_set ?_ GE248.out | refine below_set ?_ GE259.out | refine below_set ?_ GE270.out | refine below_set ?_ GE274.out) | exact HB.out))))
                have n5_ := Aside0.mk (blk_below (g := gb237) (o := .cells #[.int .i64 t234, .int .i64 t235] 25 (0, 0)) (by (with_reducible repeat (first | refine blk_drewN ?_ _ | refine blk_drew ?_ | refine blk_alloc ?_ _)); exact BK237.out) hb)
                have n6_ := Aside0.mk (blk_below (g := gb248) (o := .cells #[.int .i64 t245, .int .i64 t246] 25 (0, 0)) (by (with_reducible repeat (first | refine blk_drewN ?_ _ | refine blk_drew ?_ | refine blk_alloc ?_ _)); exact BK248.out) hb)
                have n7_ := Aside0.mk (blk_below (g := gb259) (o := .cells #[.int .i64 t256, .int .i64 t257] 25 (0, 0)) (by (with_reducible repeat (first | refine blk_drewN ?_ _ | refine blk_drew ?_ | refine blk_alloc ?_ _)); exact BK259.out) hb)
                have n8_ := Aside0.mk (blk_below (g := gb270) (o := .cells #[.int .i64 t267, .int .i64 t268] 25 (0, 0)) (by (with_reducible repeat (first | refine blk_drewN ?_ _ | refine blk_drew ?_ | refine blk_alloc ?_ _)); exact BK270.out) hb)
                have n9_ := Aside0.mk (blk_below (g := gb274) (o := .cells #[.int .i64 t271, .int .i64 t272] 25 (0, 0)) (by (with_reducible repeat (first | refine blk_drewN ?_ _ | refine blk_drew ?_ | refine blk_alloc ?_ _)); exact BK274.out) hb)
                have n10_ := Aside0.mk (below_step (by repeat (first | (with_reducible first | exact HB.out | apply below_alloc | apply pw_below_drewN | apply below_drew1 | refine below_set ?_ GE237.out | refine below_set ?_ GE248.out | refine below_set ?_ GE259.out | refine below_set ?_ GE270.out | refine below_set ?_ GE274.out) | exact HB.out)) hb)
                clear HO233
                clear HO244
                clear HO255
                clear HO266
                clear BK237
                clear BK248
                clear BK259
                clear BK270
                clear BK274
                clear HB
                have HO233 := n0_
                have HO244 := n1_
                have HO255 := n2_
                have HO266 := n3_
                have HO293 := n4_
                have BK237 := n5_
                have BK248 := n6_
                have BK259 := n7_
                have BK270 := n8_
                have BK274 := n9_
                have HB := n10_
                clear n0_ n1_ n2_ n3_ n4_ n5_ n6_ n7_ n8_ n9_ n10_
                clear hb ho88
                obtain ⟨Ao89, co89, eo89⟩ := Kd.R_slice HO293.out
                (first | subst eo89 | (injection eo89 with f1_ f2_ f3_; have f4_ := f1_.symm; have f5_ := f3_.symm; clear f1_ f2_ f3_; subst f4_; subst f5_))
                refine hK.out _ _ ⟨(blk_cell BK237.out 0).trans rfl, (blk_cell BK237.out 1).trans rfl, (blk_cell BK248.out 0).trans rfl, (blk_cell BK248.out 1).trans rfl, (blk_cell BK259.out 0).trans rfl, (blk_cell BK259.out 1).trans rfl, (blk_cell BK270.out 0).trans rfl, (blk_cell BK270.out 1).trans rfl, (blk_cell BK274.out 0).trans rfl, (blk_cell BK274.out 1).trans rfl⟩ (fun hHeld => ?_)
                clear hK K
                refine norm_ (a' := ?_) ?_ ?_
                rotate_left
                · show Act.put _ (some 90) _ = _
                  simp only [Act.put, List.setIfInBounds_toArray, List.set_cons_zero, List.set_cons_succ, i64_w, i32_w]
                  rfl
                refine one_ (i := 48) (N := some 91) #[true, true, true, true, true, true, true, true, true, true, true, true, true, true, true, true, true, true, true, true, true, true, true, true, true, true, true, true, true, true, true, true, true, true, true, true, true, true, true, true, true, true, true, true, true, true, true, true, true, false, false, false, false] rfl rfl (one_of HT_.out (by kernel_rfl)) (by decide) (fun K hK => ?_)
                refine goes_ Tryz.func17 (by kernel_rfl) rfl #[.slice Ao89 y291.length co89] (by rfl) rfl rfl (by (try simp only [List.map_toArray, List.map_cons, List.map_nil]); first | done | rfl | (simp only [List.length_drop, List.length_take]; rfl)) ?_
                with_reducible refine (value_Check.calls _ _ y291 t294 _ ?side1 ?side2 A32.out).mono ?_
                (case side1 => repeat (first | exact (Kd.R_reads' HO293.out).2.2 | (with_reducible refine Kd.C_alloc ?_ _) | (with_reducible refine Kd.C_drewN ?_ _) | (with_reducible refine Kd.C_drew ?_)))
                (case side2 => exact (Kd.R_reads' HO293.out).2.1)
                rintro e w90 ⟨rfl, hb⟩
                refine ⟨_, rfl, ?_⟩
                have n0_ := Aside0.mk (Kd.R_below (by (with_reducible repeat (first | apply Kd.R_alloc | apply Kd.R_drewN | apply Kd.R_drew)); exact HO233.out) hb)
                have n1_ := Aside0.mk (Kd.R_below (by (with_reducible repeat (first | apply Kd.R_alloc | apply Kd.R_drewN | apply Kd.R_drew)); exact HO244.out) hb)
                have n2_ := Aside0.mk (Kd.R_below (by (with_reducible repeat (first | apply Kd.R_alloc | apply Kd.R_drewN | apply Kd.R_drew)); exact HO255.out) hb)
                have n3_ := Aside0.mk (Kd.R_below (by (with_reducible repeat (first | apply Kd.R_alloc | apply Kd.R_drewN | apply Kd.R_drew)); exact HO266.out) hb)
                have n4_ := Aside0.mk (Kd.R_below (by (with_reducible repeat (first | apply Kd.R_alloc | apply Kd.R_drewN | apply Kd.R_drew)); exact HO293.out) hb)
                have n5_ := Aside0.mk (blk_below (g := gb237) (o := .cells #[.int .i64 t234, .int .i64 t235] 25 (0, 0)) (by (with_reducible repeat (first | refine blk_drewN ?_ _ | refine blk_drew ?_ | refine blk_alloc ?_ _)); exact BK237.out) hb)
                have n6_ := Aside0.mk (blk_below (g := gb248) (o := .cells #[.int .i64 t245, .int .i64 t246] 25 (0, 0)) (by (with_reducible repeat (first | refine blk_drewN ?_ _ | refine blk_drew ?_ | refine blk_alloc ?_ _)); exact BK248.out) hb)
                have n7_ := Aside0.mk (blk_below (g := gb259) (o := .cells #[.int .i64 t256, .int .i64 t257] 25 (0, 0)) (by (with_reducible repeat (first | refine blk_drewN ?_ _ | refine blk_drew ?_ | refine blk_alloc ?_ _)); exact BK259.out) hb)
                have n8_ := Aside0.mk (blk_below (g := gb270) (o := .cells #[.int .i64 t267, .int .i64 t268] 25 (0, 0)) (by (with_reducible repeat (first | refine blk_drewN ?_ _ | refine blk_drew ?_ | refine blk_alloc ?_ _)); exact BK270.out) hb)
                have n9_ := Aside0.mk (blk_below (g := gb274) (o := .cells #[.int .i64 t271, .int .i64 t272] 25 (0, 0)) (by (with_reducible repeat (first | refine blk_drewN ?_ _ | refine blk_drew ?_ | refine blk_alloc ?_ _)); exact BK274.out) hb)
                have n10_ := Aside0.mk (below_step (by repeat (first | (with_reducible first | exact HB.out | apply below_alloc | apply pw_below_drewN | apply below_drew1 | refine below_set ?_ GE237.out | refine below_set ?_ GE248.out | refine below_set ?_ GE259.out | refine below_set ?_ GE270.out | refine below_set ?_ GE274.out) | exact HB.out)) hb)
                clear HO233
                clear HO244
                clear HO255
                clear HO266
                clear HO293
                clear BK237
                clear BK248
                clear BK259
                clear BK270
                clear BK274
                clear HB
                have HO233 := n0_
                have HO244 := n1_
                have HO255 := n2_
                have HO266 := n3_
                have HO293 := n4_
                have BK237 := n5_
                have BK248 := n6_
                have BK259 := n7_
                have BK270 := n8_
                have BK274 := n9_
                have HB := n10_
                clear n0_ n1_ n2_ n3_ n4_ n5_ n6_ n7_ n8_ n9_ n10_
                (try clear hb)
                (try clear hb2)
                (try clear hk)
                (try clear hi)
                refine hK.out _ _ ⟨(blk_cell BK237.out 0).trans rfl, (blk_cell BK237.out 1).trans rfl, (blk_cell BK248.out 0).trans rfl, (blk_cell BK248.out 1).trans rfl, (blk_cell BK259.out 0).trans rfl, (blk_cell BK259.out 1).trans rfl, (blk_cell BK270.out 0).trans rfl, (blk_cell BK270.out 1).trans rfl, (blk_cell BK274.out 0).trans rfl, (blk_cell BK274.out 1).trans rfl⟩ (fun hHeld => ?_)
                clear hK K
                refine norm_ (a' := ?_) ?_ ?_
                rotate_left
                · show Act.put _ (some 91) _ = _
                  simp only [Act.put, List.setIfInBounds_toArray, List.set_cons_zero, List.set_cons_succ, i64_w, i32_w]
                  rfl
                refine one_ (i := 49) (N := some 92) #[true, true, true, true, true, true, true, true, true, true, true, true, true, true, true, true, true, true, true, true, true, true, true, true, true, true, true, true, true, true, true, true, true, true, true, true, true, true, true, true, true, true, true, true, true, true, true, true, true, true, false, false, false] rfl rfl (one_of HT_.out (by kernel_rfl)) (by decide) (fun K hK => ?_)
                refine goes_ Tryz.func16 (by kernel_rfl) rfl #[.int .i64 t294] (by rfl) rfl rfl (by (try simp only [List.map_toArray, List.map_cons, List.map_nil]); first | done | rfl | (simp only [List.length_drop, List.length_take]; rfl)) ?_
                with_reducible refine (klaxonlaw08_num.calls t294 t295 _ A33.out).mono ?_
                rintro e w' ⟨rfl, ⟨nd, rfl⟩⟩
                refine ⟨_, rfl, ?_⟩
                refine hK.out _ _ ⟨(blk_cell BK237.out 0).trans rfl, (blk_cell BK237.out 1).trans rfl, (blk_cell BK248.out 0).trans rfl, (blk_cell BK248.out 1).trans rfl, (blk_cell BK259.out 0).trans rfl, (blk_cell BK259.out 1).trans rfl, (blk_cell BK270.out 0).trans rfl, (blk_cell BK270.out 1).trans rfl, (blk_cell BK274.out 0).trans rfl, (blk_cell BK274.out 1).trans rfl⟩ (fun hHeld => ?_)
                clear hK K
                refine norm_ (a' := ?_) ?_ ?_
                rotate_left
                · show Act.put _ (some 92) _ = _
                  simp only [Act.put, List.setIfInBounds_toArray, List.set_cons_zero, List.set_cons_succ, i64_w, i32_w]
                  rfl
                refine pure_ (i := 50) (N := some 93) (v := ?_) (a' := ?_) #[true, true, true, true, true, true, true, true, true, true, true, true, true, true, true, true, true, true, true, true, true, true, true, true, true, true, true, true, true, true, true, true, true, true, true, true, true, true, true, true, true, true, true, true, true, true, true, true, true, true, true, false, false] rfl rfl (any_of HT_.out (by kernel_rfl)) (fun _ _ _ h => h) (Or.inl ⟨by rfl, ?_⟩) ?_ ?_
                rotate_left
                · intro w'
                  go_simp
                  with_reducible rfl
                rotate_left
                · simp only [Act.put, List.setIfInBounds_toArray, List.set_cons_zero, List.set_cons_succ, i64_w, i32_w]
                  rfl
                refine pure_ (i := 51) (N := some 94) (v := ?_) (a' := ?_) #[true, true, true, true, true, true, true, true, true, true, true, true, true, true, true, true, true, true, true, true, true, true, true, true, true, true, true, true, true, true, true, true, true, true, true, true, true, true, true, true, true, true, true, true, true, true, true, true, true, true, true, true, false] rfl rfl (any_of HT_.out (by kernel_rfl)) (fun _ _ _ h => h) (Or.inl ⟨by rfl, ?_⟩) ?_ ?_
                rotate_left
                · intro w'
                  go_simp
                  with_reducible rfl
                rotate_left
                · simp only [Act.put, List.setIfInBounds_toArray, List.set_cons_zero, List.set_cons_succ, i64_w, i32_w]
                  rfl
                refine pure_ (i := 52) (N := some 0) (v := ?_) (a' := ?_) #[true, true, true, true, true, true, true, true, true, true, true, true, true, true, true, true, true, true, true, true, true, true, true, true, true, true, true, true, true, true, true, true, true, true, true, true, true, true, true, true, true, true, true, true, true, true, true, true, true, true, true, true, true] rfl rfl (any_of HT_.out (by kernel_rfl)) (fun _ _ _ h => h) (Or.inl ⟨by rfl, ?_⟩) ?_ ?_
                rotate_left
                · intro w'
                  go_simp
                  with_reducible rfl
                rotate_left
                · simp only [Act.put, List.setIfInBounds_toArray, List.set_cons_zero, List.set_cons_succ, i64_w, i32_w]
                  rfl
                refine done_ (done_of HT_.out (by kernel_rfl)) ?_
                try go_wp2
                go_ret
                exact ⟨by first | rfl | (simp [errW_none, errW_some] <;> rfl) | (simp [*, errW_none, errW_some] <;> rfl), by repeat (first | (with_reducible first | exact HB.out | apply below_alloc | apply pw_below_drewN | apply below_drew1 | refine below_set ?_ GE237.out | refine below_set ?_ GE248.out | refine below_set ?_ GE259.out | refine below_set ?_ GE270.out | refine below_set ?_ GE274.out) | exact HB.out)⟩
              · rw [if_neg c31] at H; cases H
            · rw [if_neg c29] at H; cases H
          · rw [if_neg c27] at H; cases H
        · rw [if_neg c25] at H; cases H
      · rw [if_neg c23] at H; cases H
    · rw [if_neg c21] at H; cases H
  · rw [if_neg c19] at H; cases H
end Go.Proofs.YtcmiehddjgfjaaaGreatDoor.A
/- Every value's text, every text as a value: the two are each other's turn. Plain. -/
namespace Go.Proofs.YtcmiehddjgfjaaaGreatDoor.A
open Go.RowKit Go.Proofs.YtcmiehddjgfjaaaGreatDoorW.PrintWords Go.Proofs.YtcmiehddjgfjaaaGreatDoorW.PrintLast Go.Proofs.YtcmiehddjgfjaaaGreatDoorW.PrintMore
set_option linter.unusedVariables false
set_option linter.unusedSimpArgs false
theorem itoa_nat (n : Nat) : Lib.itoa (n : Int) = Lib.decDigits n := by
  unfold Lib.itoa
  rw [if_neg (by omega), Int.toNat_natCast]
/-- The text of so many thousandths. -/
def nBody (m : Nat) : List UInt8 := Lib.decDigits (m / 1000) ++ (if m % 1000 > 0 then 46 :: frac (m % 1000) else [])
theorem pBody_nat (m : Nat) : pBody (m : Int) = nBody m := by
  unfold pBody nBody
  rw [show ((m : Int) / 1000) = ((m / 1000 : Nat) : Int) by omega, show ((m : Int) % 1000) = ((m % 1000 : Nat) : Int) by omega, itoa_nat]
  by_cases h : m % 1000 > 0
  · rw [if_pos h, if_pos (by omega), show (1000 : Int) + ((m % 1000 : Nat) : Int) = ((1000 + m % 1000 : Nat) : Int) by omega, itoa_nat, dec_1000 _ (by omega)]
    rfl
  · rw [if_neg h, if_neg (by omega)]
theorem nBody_head (m : Nat) : ∃ c r, nBody m = c :: r ∧ 48 ≤ c.toNat ∧ c.toNat ≤ 57 := by
  obtain ⟨c, r, e, h⟩ := dec_head (m / 1000)
  unfold nBody
  rw [e]
  exact ⟨c, _, rfl, h⟩
theorem dec_nodot (u : Nat) : ∀ c ∈ Lib.decDigits u, c ≠ 46 := fun c hc he => by
  have := dec_digits u c hc
  rw [he] at this
  have h46 : (46 : UInt8).toNat = 46 := rfl
  omega
theorem nBody_cut (m : Nat) : (Lib.cut (nBody m) [46]).1 = Lib.decDigits (m / 1000) ∧ (Lib.cut (nBody m) [46]).2.1 = (if m % 1000 > 0 then frac (m % 1000) else []) := by
  unfold nBody
  by_cases h : m % 1000 > 0
  · rw [if_pos h, if_pos h, cut_dot _ _ (dec_nodot _)]
    exact ⟨rfl, rfl⟩
  · rw [if_neg h, if_neg h, List.append_nil, cut_free _ (dec_nodot _)]
    exact ⟨rfl, rfl⟩
theorem nBody_pu (m : Nat) : pu 0 ((Lib.cut (nBody m) [46]).1 ++ (Lib.cut (nBody m) [46]).2.1 ++ List.replicate (3 - (Lib.cut (nBody m) [46]).2.1.length) 48) = some m := by
  obtain ⟨e1, e2⟩ := nBody_cut m
  rw [e1, e2, List.append_assoc, pu_dec]
  by_cases h : m % 1000 > 0
  · rw [if_pos h, pu_frac _ _ h (by omega), show m / 1000 * 1000 + m % 1000 = m by omega]
  · rw [if_neg h]
    show pu (m / 1000) [dg8 0, dg8 0, dg8 0] = _
    rw [pu_dg (by omega), pu_dg (by omega), pu_dg (by omega)]
    show some _ = some _
    congr 1; omega
theorem nBody_len (m : Nat) (hm : m ≤ 1000000000000000) : (Lib.cut (nBody m) [46]).1.length ≤ 13 ∧ (Lib.cut (nBody m) [46]).2.1.length ≤ 3 := by
  obtain ⟨e1, e2⟩ := nBody_cut m
  rw [e1, e2]
  refine ⟨dec_len 12 _ (by omega), ?_⟩
  split
  · exact (frac_len _ (by omega) (by omega)).2
  · simp
theorem cut_at (l : List UInt8) (m : Nat) (hm : m ≤ 1000000000000000) (mi : Bool) (n : Int) (hb : Lib.trimPrefix l [45] = nBody m) (hp : Lib.hasPrefix l [45] = mi) (hn : (if mi = true then -(m : Int) else (m : Int)) = n) (hl : vPrint (1, n) = l) : pTail l = ((1, n), 0) := by
  have h1 := nBody_len m hm
  have hv : vNum n = (1, n) := by
    unfold vNum
    cases mi <;> simp at hn <;> rw [if_neg (by omega), if_neg (by omega)]
  unfold pTail
  rw [hb, hp]
  simp only
  rw [if_pos h1.2, if_pos h1.1, nBody_pu]
  simp only
  rw [hn, hv, if_pos rfl, if_pos hl]
theorem print_head (n : Int) (hv : isV (1, n)) : ∃ m : Nat, m ≤ 1000000000000000 ∧ vPrint (1, n) = (if n < 0 then 45 :: nBody m else nBody m) ∧ n = (if n < 0 then -(m : Int) else (m : Int)) := by
  have hn : -1000000000000000 ≤ n ∧ n ≤ 1000000000000000 := isV_n hv
  refine ⟨n.natAbs, by omega, ?_, by split <;> omega⟩
  unfold vPrint
  rw [if_pos hv]
  unfold pText
  simp only
  rw [if_neg (by decide), if_neg (by decide), if_neg (by decide), if_neg (by decide)]
  by_cases h : n < 0
  · rw [if_pos h, if_pos h, show -n = ((n.natAbs : Nat) : Int) by omega, pBody_nat]
  · rw [if_neg h, if_neg h]
    conv => lhs; rw [show n = ((n.natAbs : Nat) : Int) by omega]
    rw [pBody_nat]
/-- What is printed is parsed to the same value. -/
theorem parse_print (v : V) (hv : isV v) : vParse (vPrint v) = (v, 0) := by
  obtain ⟨k, n⟩ := v
  have hv0 := hv
  rcases hv with ⟨hk, h1, h2⟩ | ⟨hk, h1⟩
  · obtain rfl : k = 1 := hk
    obtain ⟨m, hm, hp, hn⟩ := print_head n hv0
    obtain ⟨c, r, e, hc1, hc2⟩ := nBody_head m
    have n1 : c ≠ 110 := fun h => by rw [h] at hc2; exact absurd hc2 (by decide)
    have n2 : c ≠ 78 := fun h => by rw [h] at hc2; exact absurd hc2 (by decide)
    have n3 : c ≠ 43 := fun h => by rw [h] at hc1; exact absurd hc1 (by decide)
    have n4 : c ≠ 45 := fun h => by rw [h] at hc1; exact absurd hc1 (by decide)
    have n5 : c ≠ 73 := fun h => by rw [h] at hc2; exact absurd hc2 (by decide)
    unfold vParse
    by_cases h : n < 0
    · rw [if_pos h] at hp hn
      have hp' : vPrint (1, n) = 45 :: c :: r := by rw [hp, e]
      rw [hp', if_neg (by simp), if_neg (by simp), if_neg (by simp), if_neg (by simp [n5])]
      refine cut_at _ m hm true n ?_ ?_ (by rw [if_pos rfl]; exact hn.symm) (by rw [hp'])
      · rw [← e]; simp [Lib.trimPrefix, Lib.hasPrefix]
      · simp [Lib.hasPrefix]
    · rw [if_neg h] at hp hn
      have hp' : vPrint (1, n) = c :: r := by rw [hp, e]
      rw [hp', if_neg (by simp [n1]), if_neg (by simp [n2]), if_neg (by simp [n3]), if_neg (by simp [n4])]
      have hf : Lib.hasPrefix (c :: r) [45] = false := by
        show ((45 : UInt8) == c && [].isPrefixOf r) = false
        rw [beq_false_of_ne (Ne.symm n4)]; rfl
      refine cut_at _ m hm false n ?_ hf (by simpa using hn.symm) (by rw [hp'])
      unfold Lib.trimPrefix
      rw [hf, ← e]; simp
  · have e : n = 0 := h1
    subst e
    have hp : vPrint (k, 0) = pText (k, 0) := if_pos hv0
    rw [hp]
    rcases hk with hk | hk | hk | hk <;> (have hk' := hk; simp only at hk'; subst hk'; rfl)
/-- What is parsed is a value, and is printed so. -/
theorem parse_ok {l : List UInt8} {v : V} (h : vParse l = (v, 0)) : isV v ∧ vPrint v = l := by
  have odd : ∀ k : Int, k = 2 ∨ k = 3 ∨ k = 4 ∨ k = 5 → isV (k, 0) := fun k hk => .inr ⟨hk, rfl⟩
  unfold vParse at h
  split at h
  · rename_i hl; injection h with h; subst h; exact ⟨odd 2 (by simp), by rw [hl]; rfl⟩
  · split at h
    · rename_i hl; injection h with h; subst h; exact ⟨odd 3 (by simp), by rw [hl]; rfl⟩
    · split at h
      · rename_i hl; injection h with h; subst h; exact ⟨odd 4 (by simp), by rw [hl]; rfl⟩
      · split at h
        · rename_i hl; injection h with h; subst h; exact ⟨odd 5 (by simp), by rw [hl]; rfl⟩
        · unfold pTail at h
          simp only at h
          split at h
          · split at h
            · split at h
              · rename_i n _
                generalize (if Lib.hasPrefix l [45] = true then -(n : Int) else (n : Int)) = x at h
                split at h
                · split at h
                  · rename_i hp
                    injection h with h
                    subst h
                    exact ⟨isV_num, hp⟩
                  · injection h with _ h; exact absurd h (by decide)
                · injection h with _ h; exact absurd h (by decide)
              · injection h with _ h; exact absurd h (by decide)
            · injection h with _ h; exact absurd h (by decide)
          · injection h with _ h; exact absurd h (by decide)
theorem parse_err {l : List UInt8} (h : (vParse l).2 ≠ 0) : vParse l = ((0, 0), 80) := by
  unfold vParse at h ⊢
  split at h
  · exact absurd rfl h
  · rename_i h1
    rw [if_neg h1]
    split at h
    · exact absurd rfl h
    · rename_i h2
      rw [if_neg h2]
      split at h
      · exact absurd rfl h
      · rename_i h3
        rw [if_neg h3]
        split at h
        · exact absurd rfl h
        · rename_i h4
          rw [if_neg h4]
          unfold pTail at h ⊢
          simp only at h ⊢
          split
          · rename_i a1
            rw [if_pos a1] at h
            split
            · rename_i a2
              rw [if_pos a2] at h
              split
              · rename_i n e
                rw [e] at h
                simp only at h
                generalize (if Lib.hasPrefix l [45] = true then -(n : Int) else (n : Int)) = x at h ⊢
                split
                · rename_i a3
                  rw [if_pos a3] at h
                  split
                  · rename_i a4
                    rw [if_pos a4] at h
                    exact absurd rfl h
                  · rfl
                · rfl
              · rfl
            · rfl
          · rfl
/-- The answer of any parser that knows just the texts that are printed. -/
theorem parse_unique {l : List UInt8} {v : V} {e : Int} (h1 : e = 0 → isV v ∧ vPrint v = l) (h2 : e ≠ 0 → (v, e) = ((0, 0), 80)) (h3 : ∀ u, isV u → vPrint u = l → e = 0) : vParse l = (v, e) := by
  by_cases he : e = 0
  · obtain ⟨hv, hp⟩ := h1 he
    rw [← hp, parse_print v hv, he]
  · rw [h2 he]
    apply parse_err
    intro h0
    have : vParse l = ((vParse l).1, 0) := by rw [← h0]
    obtain ⟨hv, hp⟩ := parse_ok this
    exact he (h3 _ hv hp)
end Go.Proofs.YtcmiehddjgfjaaaGreatDoor.A
/- The operations by their names; value.Do at one and at two values. Plain. -/
namespace Go.Proofs.YtcmiehddjgfjaaaGreatDoor.A
open Go.RowKit Go.Proofs.YtcmiehddjgfjaaaGreatDoorW.PrintWords Go.Proofs.YtcmiehddjgfjaaaGreatDoorW.PrintLast Go.Proofs.YtcmiehddjgfjaaaGreatDoorW.PrintMore
set_option linter.unusedVariables false
theorem op1_neg : tab1.lookup ⟨#[45]⟩ = some (vPlain (fun n => -n)) := rfl
theorem op1_abs : tab1.lookup ⟨#[97, 98, 115]⟩ = some (vPlain vMax) := rfl
theorem op1_floor : tab1.lookup ⟨#[102, 108, 111, 111, 114]⟩ = some vFloor := rfl
theorem op1_not : tab1.lookup ⟨#[33]⟩ = some vNot := rfl
theorem op1_null : tab1.lookup ⟨#[105, 115, 95, 110, 117, 108, 108]⟩ = some (vKind [2]) := rfl
theorem op1_nan : tab1.lookup ⟨#[105, 115, 95, 110, 97, 110]⟩ = some (vKind [3]) := rfl
theorem op1_inf : tab1.lookup ⟨#[105, 115, 95, 105, 110, 102]⟩ = some (vKind [4, 5]) := rfl
theorem op1_num : tab1.lookup ⟨#[105, 115, 95, 110, 117, 109, 98, 101, 114]⟩ = some (vKind [1]) := rfl
theorem op2_add : tab2.lookup ⟨#[43]⟩ = some (vNumbers vAdd) := rfl
theorem op2_sub : tab2.lookup ⟨#[45]⟩ = some (vNumbers vSub) := rfl
theorem op2_mul : tab2.lookup ⟨#[42]⟩ = some (vNumbers vMul) := rfl
theorem op2_div : tab2.lookup ⟨#[47]⟩ = some (vNumbers vDiv) := rfl
theorem op2_eq : tab2.lookup ⟨#[61, 61]⟩ = some (vOrder false (fun m n => m == n)) := rfl
theorem op2_ne : tab2.lookup ⟨#[33, 61]⟩ = some (vOrder true (fun m n => m != n)) := rfl
theorem op2_lt : tab2.lookup ⟨#[60]⟩ = some (vOrder false (fun m n => decide (m < n))) := rfl
theorem op2_le : tab2.lookup ⟨#[60, 61]⟩ = some (vOrder false (fun m n => decide (m ≤ n))) := rfl
theorem op2_gt : tab2.lookup ⟨#[62]⟩ = some (vOrder false (fun m n => decide (m > n))) := rfl
theorem op2_ge : tab2.lookup ⟨#[62, 61]⟩ = some (vOrder false (fun m n => decide (m ≥ n))) := rfl
theorem op2_and : tab2.lookup ⟨#[38, 38]⟩ = some vAnd := rfl
theorem op2_or : tab2.lookup ⟨#[124, 124]⟩ = some vOr := rfl
/-- value.Do of one value. -/
theorem do_1 {op : ByteArray} {F : V → V} (ht : tab1.lookup op = some F) {a : V} (ha : isV a) : value_Do.f op [⟨a.1, a.2⟩] = some ((F a).1, (F a).2, 0) := by
  have e : vDo op [a] = (F a, 0) := by
    unfold vDo
    have hb : ([a].any fun x => !decide (isV x)) = false := by simp [ha]
    rw [hb]
    simp [ht]
  unfold value_Do.f
  show some ((vDo op [a]).1.1, (vDo op [a]).1.2, (vDo op [a]).2) = _
  rw [e]
/-- What an operation of two values comes to. -/
def vTwo (F : V → V → V) (a b : V) : V := if a.1 = 2 ∨ b.1 = 2 then (2, 0) else F a b
theorem do_2 {op : ByteArray} {F : V → V → V} (ht : tab2.lookup op = some F) {a b : V} (ha : isV a) (hb : isV b) : value_Do.f op [⟨a.1, a.2⟩, ⟨b.1, b.2⟩] = some ((vTwo F a b).1, (vTwo F a b).2, 0) := by
  have e : vDo op [a, b] = (vTwo F a b, 0) := by
    unfold vDo vTwo
    have hn : ([a, b].any fun x => !decide (isV x)) = false := by simp [ha, hb]
    rw [hn]
    simp only [Bool.false_eq_true, if_false, ht]
    split <;> rfl
  unfold value_Do.f
  show some ((vDo op [a, b]).1.1, (vDo op [a, b]).1.2, (vDo op [a, b]).2) = _
  rw [e]
end Go.Proofs.YtcmiehddjgfjaaaGreatDoor.A
/- live answers true. Plain. -/
namespace Go.Proofs.YtcmiehddjgfjaaaGreatDoor.A
open Go.RowKit Go.Proofs.YtcmiehddjgfjaaaGreatDoorW.PrintWords Go.Proofs.YtcmiehddjgfjaaaGreatDoorW.PrintLast Go.Proofs.YtcmiehddjgfjaaaGreatDoorW.PrintMore
set_option linter.unusedVariables false
theorem vPrint_live : vPrint (1, -12050) = [45, 49, 50, 46, 48, 53] := by
  have hv : isV (1, -12050) := .inl ⟨rfl, by decide, by decide⟩
  unfold vPrint
  rw [if_pos hv]
  unfold pText
  simp only
  rw [if_neg (by decide), if_neg (by decide), if_neg (by decide), if_neg (by decide), if_pos (by decide)]
  rw [show (-(-12050) : Int) = ((12050 : Nat) : Int) by decide, pBody_nat]
  unfold nBody
  rw [if_pos (by decide), show 12050 / 1000 = 12 by decide, dec_big (by decide), dec_small (by decide)]
  rfl
theorem parse_live : value_Parse.f ⟨#[45, 49, 50, 46, 48, 53]⟩ = some (1, -12050, 0) := by
  have hv : isV (1, -12050) := .inl ⟨rfl, by decide, by decide⟩
  have h := parse_print (1, -12050) hv
  rw [vPrint_live] at h
  unfold value_Parse.f
  rw [if_pos (by decide), show (⟨#[45, 49, 50, 46, 48, 53]⟩ : ByteArray).toList = [45, 49, 50, 46, 48, 53] by rw [Lib.toList_data], h]
theorem live_is : klaxonlaw08_live.f = some true := by
  have n0 := num_is 1000
  have hN : ∀ n : Int, -1000000000000000 ≤ n → n ≤ 1000000000000000 → value_Num.f n = some (1, n) := fun n h1 h2 => by
    rw [num_is]; unfold vNum; rw [if_neg (by omega), if_neg (by omega)]
  have rN : ∀ n : Int, -1000000000000000 ≤ n → n ≤ 1000000000000000 → klaxonref08_Num.f n = some (1, n) := fun n h1 h2 => by
    unfold klaxonref08_Num.f; rw [if_neg (by omega), if_neg (by omega)]
  have vN : ∀ n : Int, -1000000000000000 ≤ n → n ≤ 1000000000000000 → isV (1, n) := fun n h1 h2 => .inl ⟨rfl, h1, h2⟩
  have v2 : isV (2, 0) := .inr ⟨.inl rfl, rfl⟩
  have v3 : isV (3, 0) := .inr ⟨.inr (.inl rfl), rfl⟩
  have d1 : value_Do.f ⟨#[47]⟩ [⟨1, 1000⟩, ⟨1, 3000⟩] = some (1, 333, 0) := (do_2 op2_div (vN 1000 (by decide) (by decide)) (vN 3000 (by decide) (by decide))).trans rfl
  have d2 : value_Do.f ⟨#[47]⟩ [⟨1, -1⟩, ⟨1, 0⟩] = some (5, 0, 0) := (do_2 op2_div (vN (-1) (by decide) (by decide)) (vN 0 (by decide) (by decide))).trans rfl
  have d3 : value_Do.f ⟨#[62]⟩ [⟨2, 0⟩, ⟨1, 1⟩] = some (2, 0, 0) := (do_2 op2_gt v2 (vN 1 (by decide) (by decide))).trans rfl
  have d4 : value_Do.f ⟨#[33, 61]⟩ [⟨3, 0⟩, ⟨3, 0⟩] = some (1, 1000, 0) := (do_2 op2_ne v3 v3).trans rfl
  have hp : value_Print.f 1 (-12050) = some (sb [45, 49, 50, 46, 48, 53]) := by unfold value_Print.f; rw [vPrint_live]
  have hc : value_Check.f [⟨0, 0⟩] = some 80 := by
    unfold value_Check.f
    have : badV (⟨0, 0⟩ : S25) = true := by unfold badV sv isV; simp
    simp [this]
  have ht : (sb [45, 49, 50, 46, 48, 53]).toList = [45, 49, 50, 46, 48, 53] := sb_toList _
  have hnull : value_Null.f = some (2, 0) := rfl
  have hnan : value_NaN.f = some (3, 0) := rfl
  have rminus : klaxonref08_Minus.f = some (5, 0) := rfl
  have rnull : klaxonref08_Null.f = some (2, 0) := rfl
  have hnum : ∀ n : Int, klaxonlaw08_num.f n = some n := fun _ => rfl
  unfold klaxonlaw08_live.f
  rw [hN 1000 (by decide) (by decide), hN 3000 (by decide) (by decide), hN (-1) (by decide) (by decide), hN 0 (by decide) (by decide), hN 1 (by decide) (by decide), rN 333 (by decide) (by decide), rN 1000 (by decide) (by decide), rN (-12050) (by decide) (by decide), hnull, hnan, rminus, rnull, parse_live]
  simp only [Option.bind_some, hnum, d1, d2, d3, d4, hp, hc, ht]
  have w0 : wrap64 (wrap64 (wrap64 (wrap64 (0 + 0) + 0) + 0) + 0) = 0 := by unfold wrap64; decide
  rw [w0]
  simp
end Go.Proofs.YtcmiehddjgfjaaaGreatDoor.A
/- The document's check of values, and the operations that answer a truth. Plain. -/
namespace Go.Proofs.YtcmiehddjgfjaaaGreatDoor.A
open Go.RowKit Go.Proofs.YtcmiehddjgfjaaaGreatDoorW.PrintWords Go.Proofs.YtcmiehddjgfjaaaGreatDoorW.PrintLast Go.Proofs.YtcmiehddjgfjaaaGreatDoorW.PrintMore
set_option linter.unusedVariables false
set_option linter.unusedSimpArgs false
theorem ris_is (a b : Int) : klaxonref08_Is.f a b = some (decide (isV (a, b))) := by
  unfold klaxonref08_Is.f
  by_cases hv : isV (a, b)
  · rw [decide_eq_true hv]
    rcases hv with ⟨h, h1, h2⟩ | ⟨h, h1⟩
    · have h' : a = 1 := h
      have h1' : -1000000000000000 ≤ b := h1
      have h2' : b ≤ 1000000000000000 := h2
      rw [if_pos h', if_pos h1', decide_eq_true h2']
    · have h' : a = 2 ∨ a = 3 ∨ a = 4 ∨ a = 5 := h
      have h1' : b = 0 := h1
      rw [if_neg (by omega), if_pos (by omega), if_pos (by omega), h1']; rfl
  · rw [decide_eq_false hv]
    by_cases h1 : a = 1
    · rw [if_pos h1]
      by_cases h2 : b ≥ -1000000000000000
      · rw [if_pos h2]
        have h3 : ¬ b ≤ 1000000000000000 := fun h3 => hv (.inl ⟨h1, h2, h3⟩)
        rw [decide_eq_false h3]
      · rw [if_neg h2]
    · rw [if_neg h1]
      by_cases h2 : a ≥ 2
      · rw [if_pos h2]
        by_cases h3 : a ≤ 5
        · rw [if_pos h3]
          have h4 : ¬ b = 0 := fun h4 => hv (.inr ⟨by show a = 2 ∨ a = 3 ∨ a = 4 ∨ a = 5; omega, h4⟩)
          congr 1
          exact beq_false_of_ne h4
        · rw [if_neg h3]
      · rw [if_neg h2]
theorem badV_is (x : S25) : badV x = !decide (isV (x.f0, x.f1)) := rfl
theorem rd_at {xs : List S25} {i : Nat} (h : i < xs.length) : rd_T25 xs (i : Int) = xs[i] := by
  unfold rd_T25
  rw [Int.toNat_natCast, List.getD_eq_getElem?_getD, List.getElem?_eq_getElem h]; rfl
theorem check_loop (l : List S25) (hm : l.length ≤ 4611686018427387904) : ∀ (d i : Nat), i + d = l.length → Ev (fun k => klaxonref08_Check.l0 k l (i : Int)) (if (l.drop i).any badV then 80 else 0)
  | 0, i, h => by
    have e : l.drop i = [] := List.drop_of_length_le (by omega)
    rw [e]
    refine ⟨1, fun k hk => ?_⟩
    obtain ⟨k, rfl⟩ : ∃ n, k = n + 1 := ⟨k - 1, by omega⟩
    simp only [klaxonref08_Check.l0]
    rw [if_neg (by omega)]
    rfl
  | d + 1, i, h => by
    have hi : i < l.length := by omega
    have e4 : wrap64 ((i : Int) + 1) = ((i + 1 : Nat) : Int) := by rw [wrap_id (by omega) (by omega)]; omega
    have he : l.drop i = l[i] :: l.drop (i + 1) := List.drop_eq_getElem_cons hi
    have ih := check_loop l hm d (i + 1) (by omega)
    rw [he, List.any_cons, badV_is]
    by_cases hv : isV (l[i].f0, l[i].f1)
    · rw [decide_eq_true hv]
      refine Ev.step (fun k => ?_) ih
      simp only [klaxonref08_Check.l0]
      rw [if_pos (by omega), if_pos (by omega), rd_at hi, ris_is, decide_eq_true hv]
      simp only [Option.bind_some, if_true]
      rw [e4]
    · rw [decide_eq_false hv]
      refine ⟨1, fun k hk => ?_⟩
      obtain ⟨k, rfl⟩ : ∃ n, k = n + 1 := ⟨k - 1, by omega⟩
      simp only [klaxonref08_Check.l0]
      rw [if_pos (by omega), if_pos (by omega), rd_at hi, ris_is, decide_eq_false hv]
      simp
theorem check_ev (l : List S25) (hm : l.length ≤ 4611686018427387904) : Ev (fun k => klaxonref08_Check.f k l) (if l.any badV then 80 else 0) := by
  have h := check_loop l hm l.length 0 (by omega)
  rw [List.drop_zero] at h
  exact h
theorem vTrue_truth (b : Bool) : vTrue (vTruth b) = b := by cases b <;> rfl
theorem live_ev : Ev (fun _ => klaxonlaw08_live.f.bind fun t => some t) true := ⟨0, fun _ _ => by rw [live_is]; rfl⟩
end Go.Proofs.YtcmiehddjgfjaaaGreatDoor.A
/- Laid by a program of this place, a turned copy of the printer (branches that tell false struck): functions, their contracts, and proofs that Lean checks. -/
namespace Go.Proofs.YtcmiehddjgfjaaaGreatDoor.A
open Go.RowKit Go.Proofs.YtcmiehddjgfjaaaGreatDoorW.PrintWords Go.Proofs.YtcmiehddjgfjaaaGreatDoorW.PrintLast Go.Proofs.YtcmiehddjgfjaaaGreatDoorW.PrintMore
attribute [local go_sem] max2_int min2_int max_two min_two max_three min_three max_four min_four   -- for this text's walks alone
set_option linter.unusedVariables false
set_option linter.unusedSimpArgs false

/-! ### klaxonlaw08_yes: function 36 -/
def klaxonlaw08_yes.f (a0 : ByteArray) (a1_0 : Int) (a1_1 : Int) (a2_0 : Int) (a2_1 : Int) : Option (Bool) := (value_Do.f a0 (([(⟨a1_0, a1_1⟩ : S25), (⟨a2_0, a2_1⟩ : S25)] : List (S25)))).bind fun bt446 => ((klaxonlaw08_num.f bt446.2.2).bind fun t450 => (if t450 = 0 then ((value_True.f bt446.1 bt446.2.1).bind fun t451 => (some t451)) else (none)))
set_option maxHeartbeats 8000000 in
set_option maxRecDepth 100000 in
theorem klaxonlaw08_yes.calls (a0 : ByteArray) (a1_0 : Int) (a1_1 : Int) (a2_0 : Int) (a2_1 : Int) (r : Bool) (w : World) (h : klaxonlaw08_yes.f a0 a1_0 a1_1 a2_0 a2_1 = some r) :
    Calls Tryz.prog 36 #[.string a0, .agg #[.int .i64 a1_0, .int .i64 a1_1], .agg #[.int .i64 a2_0, .int .i64 a2_1]] w fun e w' => e = .returned (.bool r) ∧ Below w.heap.size w w' := by
  have hu25 := Tryz.underlying25
  have HB := Aside0.mk (Below.refl w.heap.size w)
  have H : ((value_Do.f a0 (([(⟨a1_0, a1_1⟩ : S25), (⟨a2_0, a2_1⟩ : S25)] : List (S25)))).bind fun bt446 => ((klaxonlaw08_num.f bt446.2.2).bind fun t450 => (if t450 = 0 then ((value_True.f bt446.1 bt446.2.1).bind fun t451 => (some t451)) else (none)))) = some r := h
  clear h
  obtain ⟨y443, hy443⟩ : ∃ y_ : List (S25), y_ = (([(⟨a1_0, a1_1⟩ : S25), (⟨a2_0, a2_1⟩ : S25)] : List (S25))) := ⟨_, rfl⟩
  replace H : ((value_Do.f a0 y443).bind fun bt446 => ((klaxonlaw08_num.f bt446.2.2).bind fun t450 => (if t450 = 0 then ((value_True.f bt446.1 bt446.2.1).bind fun t451 => (some t451)) else (none)))) = some r := by first | (rw [hy443]; with_reducible exact H) | (have H2_ := (Option.bind_some _ _).symm.trans H; rw [hy443]; with_reducible exact H2_) | (have H2_ := (Option.bind_some _ _).symm.trans H; with_reducible exact H2_) | with_reducible exact H | (rw [hy443]; exact H) | exact H
  have Ny443 := Aside0.mk hy443
  clear hy443
  replace H := Option.bind_eq_some_iff.mp H
  obtain ⟨⟨t446, t447, t448⟩, A40, H⟩ := H
  replace H : ((klaxonlaw08_num.f t448).bind fun t450 => (if t450 = 0 then ((value_True.f t446 t447).bind fun t451 => (some t451)) else (none))) = some r := H
  have A4 := Aside0.mk A40
  clear A40
  replace H := Option.bind_eq_some_iff.mp H
  obtain ⟨t450, A50, H⟩ := H
  replace H : (if t450 = 0 then ((value_True.f t446 t447).bind fun t451 => (some t451)) else (none)) = some r := H
  have A5 := Aside0.mk A50
  clear A50
  by_cases c6 : t450 = 0
  · rw [if_pos c6] at H
    have c6b0 : (t450 == 0) = true := beq_iff_eq.mpr c6
    have c6b1 : (t450 != 0) = false := bne_eq_false_iff_eq.mpr c6
    clear c6
    replace H := Option.bind_eq_some_iff.mp H
    obtain ⟨t451, A70, H⟩ := H
    replace H : (some t451) = some r := H
    have A7 := Aside0.mk A70
    clear A70
    obtain rfl := Option.some.inj H
    go_enter Tryz.func36, Tryz.ntmps36
    go_wp2_with (first | ((with_reducible refine gate_dst (N := 4) rfl ?_); refine box_event ?hg (N := 4) ?hd (cs := #[.int .i64 a1_0, .int .i64 a1_1]) (t := 25) ?hr ?_; (case hd => rfl); (case hg => rfl); (case hr => first | (go_simp; done) | (go_simp; rfl)); intro gb441 hg w8 hbox hb; have n0_ := Aside0.mk (below_step (by repeat (first | (with_reducible first | exact HB.out | apply below_alloc | apply pw_below_drewN | apply below_drew1) | exact HB.out)) hb); have n1_ := Aside0.mk (hbox); have n2_ := Aside0.mk ((by rw [hg]; exact (below_size (by repeat (first | (with_reducible first | exact HB.out | apply below_alloc | apply pw_below_drewN | apply below_drew1) | exact HB.out))) : w.heap.size ≤ gb441)); have n3_ := Aside0.mk ((by rw [hg]; exact (below_size (by repeat (first | (with_reducible first | exact HB.out | apply below_alloc | apply pw_below_drewN | apply below_drew1) | exact HB.out))) : w.heap.size ≤ gb441)); clear HB; have HB := n0_; have BK441 := n1_; have GW441 := n2_; have GE441 := n3_; clear n0_ n1_ n2_ n3_; clear hb hbox hg) | ((with_reducible refine gate_dst (N := 5) rfl ?_); refine box_event ?hg (N := 5) ?hd (cs := #[.int .i64 a2_0, .int .i64 a2_1]) (t := 25) ?hr ?_; (case hd => rfl); (case hg => rfl); (case hr => first | (go_simp; done) | (go_simp; rfl)); intro gb442 hg w9 hbox hb; have n0_ := Aside0.mk (blk_below (g := gb441) (o := .cells #[.int .i64 a1_0, .int .i64 a1_1] 25 (0, 0)) (by (with_reducible repeat (first | refine blk_drewN ?_ _ | refine blk_drew ?_ | refine blk_alloc ?_ _)); exact BK441.out) hb); have n1_ := Aside0.mk (below_step (by repeat (first | (with_reducible first | exact HB.out | apply below_alloc | apply pw_below_drewN | apply below_drew1 | refine below_set ?_ GE441.out) | exact HB.out)) hb); have n2_ := Aside0.mk (hbox); have n3_ := Aside0.mk ((by rw [hg]; exact (below_size (by repeat (first | (with_reducible first | exact HB.out | apply below_alloc | apply pw_below_drewN | apply below_drew1 | refine below_set ?_ GE441.out) | exact HB.out))) : w.heap.size ≤ gb442)); have n4_ := Aside0.mk ((by rw [hg]; exact (below_size (by repeat (first | (with_reducible first | exact HB.out | apply below_alloc | apply pw_below_drewN | apply below_drew1 | refine below_set ?_ GE441.out) | exact HB.out))) : w.heap.size ≤ gb442)); have n5_ := Aside0.mk ((by rw [hg]; exact Nat.ne_of_lt (blk_lt (g := gb441) (o := .cells #[.int .i64 a1_0, .int .i64 a1_1] 25 (0, 0)) (by (with_reducible repeat (first | refine blk_drewN ?_ _ | refine blk_drew ?_ | refine blk_alloc ?_ _)); exact BK441.out)) : gb441 ≠ gb442)); have n6_ := Aside0.mk ((by rw [hg]; exact Nat.ne_of_gt (blk_lt (g := gb441) (o := .cells #[.int .i64 a1_0, .int .i64 a1_1] 25 (0, 0)) (by (with_reducible repeat (first | refine blk_drewN ?_ _ | refine blk_drew ?_ | refine blk_alloc ?_ _)); exact BK441.out)) : gb442 ≠ gb441)); clear BK441; clear HB; have BK441 := n0_; have HB := n1_; have BK442 := n2_; have GW442 := n3_; have GE442 := n4_; have NB441_442 := n5_; have NB442_441 := n6_; clear n0_ n1_ n2_ n3_ n4_ n5_ n6_; clear hb hbox hg; have hnb10 := NB441_442.out; have hnc10 := NB442_441.out; have hcz11_0 : w9.cell? ⟨gb441, 0, none⟩ = some (.int .i64 a1_0) := (blk_cell BK441.out 0).trans rfl; have hcz11_1 : w9.cell? ⟨gb441, 1, none⟩ = some (.int .i64 a1_1) := (blk_cell BK441.out 1).trans rfl; have hfz11_0 := blk_frozen BK441.out 0; have hfz11_1 := blk_frozen BK441.out 1; have hcz12_0 : w9.cell? ⟨gb442, 0, none⟩ = some (.int .i64 a2_0) := (blk_cell BK442.out 0).trans rfl; have hcz12_1 : w9.cell? ⟨gb442, 1, none⟩ = some (.int .i64 a2_1) := (blk_cell BK442.out 1).trans rfl; have hfz12_0 := blk_frozen BK442.out 0; have hfz12_1 := blk_frozen BK442.out 1) | ((with_reducible refine gate_dst (N := 13) rfl ?_); refine Kd.R_lit k25 _ 25 ?hg (N := 13) ?hd (xs := ([(⟨a1_0, a1_1⟩ : S25), (⟨a2_0, a2_1⟩ : S25)] : List (S25))) (inner := [.int .i64 a1_0, .int .i64 a1_1, .int .i64 a2_0, .int .i64 a2_1]) (ok := fun _ => True) (okp := fun _ => True) ?hr ?hp (fun _ hk => hk) trivial (Below.refl _ _) (Nat.le_refl _) (by simp) ?_; (case hd => rfl); (case hg => rfl); (case hr => first | (go_simp; done) | (go_simp; rfl)); (case hp => exact (Reps.c2 (show Kd.M k25 _ _ _ (⟨a1_0, a1_1⟩ : S25) [.int .i64 a1_0, .int .i64 a1_1] from (k25_mkM _ _ _ (⟨a1_0, a1_1⟩ : S25) )) (Reps.c2 (show Kd.M k25 _ _ _ (⟨a2_0, a2_1⟩ : S25) [.int .i64 a2_0, .int .i64 a2_1] from (k25_mkM _ _ _ (⟨a2_0, a2_1⟩ : S25) )) (Reps.none _ _)))); intro v444 w13 ho14 hb hg_ hnew_; clear hg_ hnew_; (first | rw [← Ny443.out] at ho14 | (simp only [Int.reduceToNat] at ho14; rw [← Ny443.out] at ho14)); have n0_ := Aside0.mk (Kd.R_lower (Kd.R_newB (Kd.R_newB ho14 (g := gb441) (o := .cells #[.int .i64 a1_0, .int .i64 a1_1] 25 (0, 0)) (by (with_reducible repeat (first | refine blk_drewN ?_ _ | refine blk_drew ?_ | refine blk_alloc ?_ _)); exact BK441.out)) (g := gb442) (o := .cells #[.int .i64 a2_0, .int .i64 a2_1] 25 (0, 0)) (by (with_reducible repeat (first | refine blk_drewN ?_ _ | refine blk_drew ?_ | refine blk_alloc ?_ _)); exact BK442.out)) (below_size (by repeat (first | (with_reducible first | exact HB.out | apply below_alloc | apply pw_below_drewN | apply below_drew1 | refine below_set ?_ GE441.out | refine below_set ?_ GE442.out) | exact HB.out)))); have n1_ := Aside0.mk (blk_below (g := gb441) (o := .cells #[.int .i64 a1_0, .int .i64 a1_1] 25 (0, 0)) (by (with_reducible repeat (first | refine blk_drewN ?_ _ | refine blk_drew ?_ | refine blk_alloc ?_ _)); exact BK441.out) hb); have n2_ := Aside0.mk (blk_below (g := gb442) (o := .cells #[.int .i64 a2_0, .int .i64 a2_1] 25 (0, 0)) (by (with_reducible repeat (first | refine blk_drewN ?_ _ | refine blk_drew ?_ | refine blk_alloc ?_ _)); exact BK442.out) hb); have n3_ := Aside0.mk (below_step (by repeat (first | (with_reducible first | exact HB.out | apply below_alloc | apply pw_below_drewN | apply below_drew1 | refine below_set ?_ GE441.out | refine below_set ?_ GE442.out) | exact HB.out)) hb); clear BK441; clear BK442; clear HB; have HO445 := n0_; have BK441 := n1_; have BK442 := n2_; have HB := n3_; clear n0_ n1_ n2_ n3_; clear hb ho14; obtain ⟨Ao15, co15, eo15⟩ := Kd.R_slice HO445.out; subst eo15) | ((with_reducible refine gate_callee (f := 11) rfl ?_); refine goesL_ (some 14) rfl rfl Tryz.func11 (by kernel_rfl) rfl #[.string a0, .slice Ao15 y443.length co15] rfl (by (try simp only [List.map_toArray, List.map_cons, List.map_nil]); first | done | rfl | (simp only [List.length_drop, List.length_take]; rfl)) ?_; (with_reducible refine (value_Do.calls a0 _ _ y443 t446 t447 t448 _ ?side1 ?side2 A4.out).mono ?_); (case side1 => repeat (first | exact (Kd.R_reads' HO445.out).2.2 | (with_reducible refine Kd.C_alloc ?_ _) | (with_reducible refine Kd.C_drewN ?_ _) | (with_reducible refine Kd.C_drew ?_))); (case side2 => exact (Kd.R_reads' HO445.out).2.1); rintro e w16 ⟨rfl, hb⟩; refine ⟨_, rfl, ?_⟩; have n0_ := Aside0.mk (Kd.R_below (by (with_reducible repeat (first | apply Kd.R_alloc | apply Kd.R_drewN | apply Kd.R_drew)); exact HO445.out) hb); have n1_ := Aside0.mk (blk_below (g := gb441) (o := .cells #[.int .i64 a1_0, .int .i64 a1_1] 25 (0, 0)) (by (with_reducible repeat (first | refine blk_drewN ?_ _ | refine blk_drew ?_ | refine blk_alloc ?_ _)); exact BK441.out) hb); have n2_ := Aside0.mk (blk_below (g := gb442) (o := .cells #[.int .i64 a2_0, .int .i64 a2_1] 25 (0, 0)) (by (with_reducible repeat (first | refine blk_drewN ?_ _ | refine blk_drew ?_ | refine blk_alloc ?_ _)); exact BK442.out) hb); have n3_ := Aside0.mk (below_step (by repeat (first | (with_reducible first | exact HB.out | apply below_alloc | apply pw_below_drewN | apply below_drew1 | refine below_set ?_ GE441.out | refine below_set ?_ GE442.out) | exact HB.out)) hb); clear HO445; clear BK441; clear BK442; clear HB; have HO445 := n0_; have BK441 := n1_; have BK442 := n2_; have HB := n3_; clear n0_ n1_ n2_ n3_; (try clear hb); (try clear hb2); (try clear hk); (try clear hi)) | ((with_reducible refine gate_dst (N := 7) rfl ?_); refine box_event ?hg (N := 7) ?hd (cs := #[.int .i64 0, .int .i64 0]) (t := 25) ?hr ?_; (case hd => rfl); (case hg => rfl); (case hr => first | (go_simp; done) | (go_simp; rfl)); intro gb449 hg w17 hbox hb; have n0_ := Aside0.mk (Kd.R_below (Kd.R_elderB (by (with_reducible repeat (first | apply Kd.R_alloc | apply Kd.R_drewN | apply Kd.R_drew)); exact HO445.out) gb449 (Nat.le_of_eq hg.symm)) hb); have n1_ := Aside0.mk (blk_below (g := gb441) (o := .cells #[.int .i64 a1_0, .int .i64 a1_1] 25 (0, 0)) (by (with_reducible repeat (first | refine blk_drewN ?_ _ | refine blk_drew ?_ | refine blk_alloc ?_ _)); exact BK441.out) hb); have n2_ := Aside0.mk (blk_below (g := gb442) (o := .cells #[.int .i64 a2_0, .int .i64 a2_1] 25 (0, 0)) (by (with_reducible repeat (first | refine blk_drewN ?_ _ | refine blk_drew ?_ | refine blk_alloc ?_ _)); exact BK442.out) hb); have n3_ := Aside0.mk (below_step (by repeat (first | (with_reducible first | exact HB.out | apply below_alloc | apply pw_below_drewN | apply below_drew1 | refine below_set ?_ GE441.out | refine below_set ?_ GE442.out) | exact HB.out)) hb); have n4_ := Aside0.mk (hbox); have n5_ := Aside0.mk ((by rw [hg]; exact (below_size (by repeat (first | (with_reducible first | exact HB.out | apply below_alloc | apply pw_below_drewN | apply below_drew1 | refine below_set ?_ GE441.out | refine below_set ?_ GE442.out) | exact HB.out))) : w.heap.size ≤ gb449)); have n6_ := Aside0.mk ((by rw [hg]; exact (below_size (by repeat (first | (with_reducible first | exact HB.out | apply below_alloc | apply pw_below_drewN | apply below_drew1 | refine below_set ?_ GE441.out | refine below_set ?_ GE442.out) | exact HB.out))) : w.heap.size ≤ gb449)); have n7_ := Aside0.mk ((by rw [hg]; exact Nat.ne_of_lt (blk_lt (g := gb441) (o := .cells #[.int .i64 a1_0, .int .i64 a1_1] 25 (0, 0)) (by (with_reducible repeat (first | refine blk_drewN ?_ _ | refine blk_drew ?_ | refine blk_alloc ?_ _)); exact BK441.out)) : gb441 ≠ gb449)); have n8_ := Aside0.mk ((by rw [hg]; exact Nat.ne_of_gt (blk_lt (g := gb441) (o := .cells #[.int .i64 a1_0, .int .i64 a1_1] 25 (0, 0)) (by (with_reducible repeat (first | refine blk_drewN ?_ _ | refine blk_drew ?_ | refine blk_alloc ?_ _)); exact BK441.out)) : gb449 ≠ gb441)); have n9_ := Aside0.mk ((by rw [hg]; exact Nat.ne_of_lt (blk_lt (g := gb442) (o := .cells #[.int .i64 a2_0, .int .i64 a2_1] 25 (0, 0)) (by (with_reducible repeat (first | refine blk_drewN ?_ _ | refine blk_drew ?_ | refine blk_alloc ?_ _)); exact BK442.out)) : gb442 ≠ gb449)); have n10_ := Aside0.mk ((by rw [hg]; exact Nat.ne_of_gt (blk_lt (g := gb442) (o := .cells #[.int .i64 a2_0, .int .i64 a2_1] 25 (0, 0)) (by (with_reducible repeat (first | refine blk_drewN ?_ _ | refine blk_drew ?_ | refine blk_alloc ?_ _)); exact BK442.out)) : gb449 ≠ gb442)); clear HO445; clear BK441; clear BK442; clear HB; have HO445 := n0_; have BK441 := n1_; have BK442 := n2_; have HB := n3_; have BK449 := n4_; have GW449 := n5_; have GE449 := n6_; have NB441_449 := n7_; have NB449_441 := n8_; have NB442_449 := n9_; have NB449_442 := n10_; clear n0_ n1_ n2_ n3_ n4_ n5_ n6_ n7_ n8_ n9_ n10_; clear hb hbox hg; have hnb18 := NB449_441.out; have hnc18 := NB441_449.out; have hnb19 := NB449_442.out; have hnc19 := NB442_449.out; have hcz20_0 : w17.cell? ⟨gb449, 0, none⟩ = some (.int .i64 0) := (blk_cell BK449.out 0).trans rfl; have hcz20_1 : w17.cell? ⟨gb449, 1, none⟩ = some (.int .i64 0) := (blk_cell BK449.out 1).trans rfl; have hfz20_0 := blk_frozen BK449.out 0; have hfz20_1 := blk_frozen BK449.out 1) | ((with_reducible refine gate_callee (f := 16) rfl ?_); refine goesL_ (some 18) rfl rfl Tryz.func16 (by kernel_rfl) rfl #[.int .i64 t448] rfl (by (try simp only [List.map_toArray, List.map_cons, List.map_nil]); first | done | rfl | (simp only [List.length_drop, List.length_take]; rfl)) ?_; (with_reducible refine (klaxonlaw08_num.calls t448 t450 _ A5.out).mono ?_); rintro e w' ⟨rfl, ⟨nd, rfl⟩⟩; refine ⟨_, rfl, ?_⟩) | (go_at_call 14; (with_reducible refine (value_True.calls t446 t447 t451 _ A7.out).mono ?_); rintro e w21 ⟨rfl, hb⟩; have n0_ := Aside0.mk (Kd.R_below (by (with_reducible repeat (first | apply Kd.R_alloc | apply Kd.R_drewN | apply Kd.R_drew)); exact (Kd.R_mono (Kd.R_far (p := ⟨gb449, 1, none⟩) (Kd.R_far (p := ⟨gb449, 0, none⟩) (Kd.R_mono HO445.out (fun k_ hk => (⟨hk, hk.2⟩ : _ ∧ k_ ≠ gb449))) (fun _ hk => hk.2) (.int .i64 t446)) (fun _ hk => hk.2) (.int .i64 t447)) (fun _ h_ => h_.1))) hb); have n1_ := Aside0.mk (blk_below (g := gb441) (o := .cells #[.int .i64 a1_0, .int .i64 a1_1] 25 (0, 0)) (by (with_reducible repeat (first | refine blk_drewN ?_ _ | refine blk_drew ?_ | refine blk_alloc ?_ _)); refine blk_far ?_ NB441_449.out _; (with_reducible repeat (first | refine blk_drewN ?_ _ | refine blk_drew ?_ | refine blk_alloc ?_ _)); refine blk_far ?_ NB441_449.out _; (with_reducible repeat (first | refine blk_drewN ?_ _ | refine blk_drew ?_ | refine blk_alloc ?_ _)); exact BK441.out) hb); have n2_ := Aside0.mk (blk_below (g := gb442) (o := .cells #[.int .i64 a2_0, .int .i64 a2_1] 25 (0, 0)) (by (with_reducible repeat (first | refine blk_drewN ?_ _ | refine blk_drew ?_ | refine blk_alloc ?_ _)); refine blk_far ?_ NB442_449.out _; (with_reducible repeat (first | refine blk_drewN ?_ _ | refine blk_drew ?_ | refine blk_alloc ?_ _)); refine blk_far ?_ NB442_449.out _; (with_reducible repeat (first | refine blk_drewN ?_ _ | refine blk_drew ?_ | refine blk_alloc ?_ _)); exact BK442.out) hb); have n3_ := Aside0.mk (blk_below (g := gb449) (o := .cells #[.int .i64 t446, .int .i64 t447] 25 (0, 0)) (by (with_reducible repeat (first | refine blk_drewN ?_ _ | refine blk_drew ?_ | refine blk_alloc ?_ _)); refine blk_put (cs := #[.int .i64 t446, .int .i64 0]) ?_ 1 _ rfl; (with_reducible repeat (first | refine blk_drewN ?_ _ | refine blk_drew ?_ | refine blk_alloc ?_ _)); refine blk_put (cs := #[.int .i64 0, .int .i64 0]) ?_ 0 _ rfl; (with_reducible repeat (first | refine blk_drewN ?_ _ | refine blk_drew ?_ | refine blk_alloc ?_ _)); exact BK449.out) hb); have n4_ := Aside0.mk (below_step (by repeat (first | (with_reducible first | exact HB.out | apply below_alloc | apply pw_below_drewN | apply below_drew1 | refine below_set ?_ GE441.out | refine below_set ?_ GE442.out | refine below_set ?_ GE449.out) | exact HB.out)) hb); clear HO445; clear BK441; clear BK442; clear BK449; clear HB; have HO445 := n0_; have BK441 := n1_; have BK442 := n2_; have BK449 := n3_; have HB := n4_; clear n0_ n1_ n2_ n3_ n4_; (try clear hb); (try clear hb2); (try clear hk); (try clear hi)))
    go_ret
    exact ⟨by first | rfl | (simp [errW_none, errW_some] <;> rfl) | (simp [*, errW_none, errW_some] <;> rfl), by repeat (first | (with_reducible first | exact HB.out | apply below_alloc | apply pw_below_drewN | apply below_drew1 | refine below_set ?_ GE441.out | refine below_set ?_ GE442.out | refine below_set ?_ GE449.out) | exact HB.out)⟩
  · rw [if_neg c6] at H; cases H
end Go.Proofs.YtcmiehddjgfjaaaGreatDoor.A
