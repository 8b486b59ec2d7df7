/-
  No cell of these rows narrows 'for every input' (looked for: loops, veiled, ifaces, maps, wideKeys, modest, calm, conditions, laid).
  DERIVED. THE GIVEN ROWS OF THIS SEAT. 5 by the template 'for every input the law returns true; each argument reads behind the call as it read before'; 0 by the template 'total and deterministic' (their statements: YtephhhflifjcmaaTotals.lean).
  GIVEN WITH THE SEED: the statements are not yours to turn. If you find one false, say at which input.
  Laid BY PROGRAM, IN A SANDBOX (cutbox-rows.mjs): the forced cells as the released guide's own fill.sh prints them over the translation f176dbbe4f92d1c7… (all of the seat's roots in one cut). By AI agents, Wed Nov 11 2026. No macro, syntax, notation, axiom, sorry.
-/
import Derived.Test.YtephhhflifjcmaaChecked
import GoSem.Claim
import GoSem.ClaimJoined
import GoSem.ClaimMapViews
import Derived.JoinedTies
import Derived.KernelRfl
namespace Go.Proofs.Ytephhhflifjcmaa
/- THE CELL 'sum', in the pinned program and in every row, IS THE sha256 OF THE DUMP (.gsa) THAT YtephhhflifjcmaaProg.lean LOADS. Nothing in Lean hashes anything: it is a label: what it is worth is what the hold of that sum in a sandbox is worth. -/
noncomputable def Try.pinned : Pinned := { name := "ytephhhflifjcmaa", sum := "f176dbbe4f92d1c7aa8c09d6f5dd84620d047307a8550ba4b44faabc8cb493c6", checked := Try.checked }
namespace Rows
def none {H : Type} : Left H := { results := [], args := [] }

/-- 'klaxonlaw07.KeysOnce': WHATEVER THE INPUT: true; the input reads as it did. -/
def keysOnceSpec : ChangeSpec := { name := "keysOnce", fn := fun _ => fun
  | [d1, d2] => { results := [.lit (.bool true)], args := [d1, d2] }
  | _ => none }
def keysOnceRow : OpenClaim := { program := "ytephhhflifjcmaa", sum := "f176dbbe4f92d1c7aa8c09d6f5dd84620d047307a8550ba4b44faabc8cb493c6", func := "klaxon/klaxonlaw07.KeysOnce", spec := "keysOnce", inPlace := ["internal/abi.NoEscape"], unfollowed := true, recurses := true, apart := false }
def KeysOnceSaid : Prop := keysOnceRow.holds Try.pinned (OpenSpec.ofChange keysOnceSpec)

/-- ITS FALSE NEIGHBOUR: 'it returns false'. Refute it at one input. -/
def keysOnceWrong : ChangeSpec := { name := "keysOnce", fn := fun _ => fun
  | [d1, d2] => { results := [.lit (.bool false)], args := [d1, d2] }
  | _ => none }
def KeysOnceWrongFalsely : Prop := keysOnceRow.holds Try.pinned (OpenSpec.ofChange keysOnceWrong)

/-- 'klaxonlaw07.KeysNumbers': WHATEVER THE INPUT: true; the input reads as it did. -/
def keysNumbersSpec : ChangeSpec := { name := "keysNumbers", fn := fun _ => fun
  | [d1, d2, d3, d4] => { results := [.lit (.bool true)], args := [d1, d2, d3, d4] }
  | _ => none }
def keysNumbersRow : OpenClaim := { program := "ytephhhflifjcmaa", sum := "f176dbbe4f92d1c7aa8c09d6f5dd84620d047307a8550ba4b44faabc8cb493c6", func := "klaxon/klaxonlaw07.KeysNumbers", spec := "keysNumbers", inPlace := ["internal/abi.NoEscape"], unfollowed := true, recurses := true, apart := false }
def KeysNumbersSaid : Prop := keysNumbersRow.holds Try.pinned (OpenSpec.ofChange keysNumbersSpec)

/-- ITS FALSE NEIGHBOUR: 'it returns false'. Refute it at one input. -/
def keysNumbersWrong : ChangeSpec := { name := "keysNumbers", fn := fun _ => fun
  | [d1, d2, d3, d4] => { results := [.lit (.bool false)], args := [d1, d2, d3, d4] }
  | _ => none }
def KeysNumbersWrongFalsely : Prop := keysNumbersRow.holds Try.pinned (OpenSpec.ofChange keysNumbersWrong)

/-- 'klaxonlaw07.KeysPuts': WHATEVER THE INPUT: true; the input reads as it did. -/
def keysPutsSpec : ChangeSpec := { name := "keysPuts", fn := fun _ => fun
  | [d1, d2, d3] => { results := [.lit (.bool true)], args := [d1, d2, d3] }
  | _ => none }
def keysPutsRow : OpenClaim := { program := "ytephhhflifjcmaa", sum := "f176dbbe4f92d1c7aa8c09d6f5dd84620d047307a8550ba4b44faabc8cb493c6", func := "klaxon/klaxonlaw07.KeysPuts", spec := "keysPuts", inPlace := ["internal/abi.NoEscape"], unfollowed := true, recurses := true, apart := false }
def KeysPutsSaid : Prop := keysPutsRow.holds Try.pinned (OpenSpec.ofChange keysPutsSpec)

/-- ITS FALSE NEIGHBOUR: 'it returns false'. Refute it at one input. -/
def keysPutsWrong : ChangeSpec := { name := "keysPuts", fn := fun _ => fun
  | [d1, d2, d3] => { results := [.lit (.bool false)], args := [d1, d2, d3] }
  | _ => none }
def KeysPutsWrongFalsely : Prop := keysPutsRow.holds Try.pinned (OpenSpec.ofChange keysPutsWrong)

/-- 'klaxonlaw07.KeysBegin': WHATEVER THE INPUT: true; the input reads as it did. -/
def keysBeginSpec : ChangeSpec := { name := "keysBegin", fn := fun _ => fun
  | [d1, d2, d3] => { results := [.lit (.bool true)], args := [d1, d2, d3] }
  | _ => none }
def keysBeginRow : OpenClaim := { program := "ytephhhflifjcmaa", sum := "f176dbbe4f92d1c7aa8c09d6f5dd84620d047307a8550ba4b44faabc8cb493c6", func := "klaxon/klaxonlaw07.KeysBegin", spec := "keysBegin", inPlace := ["internal/abi.NoEscape"], unfollowed := true, recurses := true, apart := false }
def KeysBeginSaid : Prop := keysBeginRow.holds Try.pinned (OpenSpec.ofChange keysBeginSpec)

/-- ITS FALSE NEIGHBOUR: 'it returns false'. Refute it at one input. -/
def keysBeginWrong : ChangeSpec := { name := "keysBegin", fn := fun _ => fun
  | [d1, d2, d3] => { results := [.lit (.bool false)], args := [d1, d2, d3] }
  | _ => none }
def KeysBeginWrongFalsely : Prop := keysBeginRow.holds Try.pinned (OpenSpec.ofChange keysBeginWrong)

/-- 'klaxonlaw07.KeysOrder': WHATEVER THE INPUT: true; the input reads as it did. -/
def keysOrderSpec : ChangeSpec := { name := "keysOrder", fn := fun _ => fun
  | [d1, d2] => { results := [.lit (.bool true)], args := [d1, d2] }
  | _ => none }
def keysOrderRow : OpenClaim := { program := "ytephhhflifjcmaa", sum := "f176dbbe4f92d1c7aa8c09d6f5dd84620d047307a8550ba4b44faabc8cb493c6", func := "klaxon/klaxonlaw07.KeysOrder", spec := "keysOrder", inPlace := ["internal/abi.NoEscape", "internal/bytealg.abigen_runtime_cmpstring"], unfollowed := true, recurses := true, apart := false }
def KeysOrderSaid : Prop := keysOrderRow.holds Try.pinned (OpenSpec.ofChange keysOrderSpec)

/-- ITS FALSE NEIGHBOUR: 'it returns false'. Refute it at one input. -/
def keysOrderWrong : ChangeSpec := { name := "keysOrder", fn := fun _ => fun
  | [d1, d2] => { results := [.lit (.bool false)], args := [d1, d2] }
  | _ => none }
def KeysOrderWrongFalsely : Prop := keysOrderRow.holds Try.pinned (OpenSpec.ofChange keysOrderWrong)

/- THE SECOND FORM. 'bulk': how many values and letters a reading holds, each counted each time it is reached (what is shared counts as often as it is met; a slice's spare places count too). A statement '..UptoSaid' is the law's where the arguments, and the package variables that the reading takes, are together of bulk at most 1048576: NARROWER than '..Said'. Prove '..Said' where nothing that the law and all that it calls make is longer than what came in: it says more and counts as full. Else prove '..UptoSaid'. A law counts once. -/
mutual
def uptoBulk {H : Type} : DataW H → Nat
  | .lit (.string bytes) => bytes.length + 1
  | .lit _ => 1
  | .nil => 1
  | .ptr d => uptoBulk d + 1
  | .slice elems spare => uptoBulkAll elems + uptoBulkAll spare + 1
  | .agg parts => uptoBulkAll parts + 1
  | .iface _ d => uptoBulk d + 1
  | .map entries => uptoBulkEntries entries + 1
  | .held _ => 1
def uptoBulkAll {H : Type} : List (DataW H) → Nat
  | [] => 0
  | d :: r => uptoBulk d + uptoBulkAll r
def uptoBulkEntries {H : Type} : List (Lit × DataW H) → Nat
  | [] => 0
  | x :: r => uptoBulkEntry x + uptoBulkEntries r
def uptoBulkEntry {H : Type} : Lit × DataW H → Nat
  | (.string bytes, d) => bytes.length + uptoBulk d + 1
  | (_, d) => uptoBulk d + 1
 end
def uptoSmall : (H : Type) → List (DataW H) → Bool := fun _ ds => decide (uptoBulkAll ds ≤ 1048576)
def OpenSpec.upto (s : _root_.Go.ChangeSpec) : _root_.Go.OpenSpec := { _root_.Go.OpenSpec.ofChange s with cond := some uptoSmall }

/-- 'klaxonlaw07.KeysOnce', WHERE WHAT IT READS IS OF BULK AT MOST 1048576: true; the input reads as it did. -/
def keysOnceUptoRow : OpenClaim := { program := "ytephhhflifjcmaa", sum := "f176dbbe4f92d1c7aa8c09d6f5dd84620d047307a8550ba4b44faabc8cb493c6", func := "klaxon/klaxonlaw07.KeysOnce", spec := "keysOnce", inPlace := ["internal/abi.NoEscape"], unfollowed := true, recurses := true, apart := false, narrowed := true }
def KeysOnceUptoSaid : Prop := keysOnceUptoRow.holds Try.pinned (OpenSpec.upto keysOnceSpec)

/-- 'klaxonlaw07.KeysNumbers', WHERE WHAT IT READS IS OF BULK AT MOST 1048576: true; the input reads as it did. -/
def keysNumbersUptoRow : OpenClaim := { program := "ytephhhflifjcmaa", sum := "f176dbbe4f92d1c7aa8c09d6f5dd84620d047307a8550ba4b44faabc8cb493c6", func := "klaxon/klaxonlaw07.KeysNumbers", spec := "keysNumbers", inPlace := ["internal/abi.NoEscape"], unfollowed := true, recurses := true, apart := false, narrowed := true }
def KeysNumbersUptoSaid : Prop := keysNumbersUptoRow.holds Try.pinned (OpenSpec.upto keysNumbersSpec)

/-- 'klaxonlaw07.KeysPuts', WHERE WHAT IT READS IS OF BULK AT MOST 1048576: true; the input reads as it did. -/
def keysPutsUptoRow : OpenClaim := { program := "ytephhhflifjcmaa", sum := "f176dbbe4f92d1c7aa8c09d6f5dd84620d047307a8550ba4b44faabc8cb493c6", func := "klaxon/klaxonlaw07.KeysPuts", spec := "keysPuts", inPlace := ["internal/abi.NoEscape"], unfollowed := true, recurses := true, apart := false, narrowed := true }
def KeysPutsUptoSaid : Prop := keysPutsUptoRow.holds Try.pinned (OpenSpec.upto keysPutsSpec)

/-- 'klaxonlaw07.KeysBegin', WHERE WHAT IT READS IS OF BULK AT MOST 1048576: true; the input reads as it did. -/
def keysBeginUptoRow : OpenClaim := { program := "ytephhhflifjcmaa", sum := "f176dbbe4f92d1c7aa8c09d6f5dd84620d047307a8550ba4b44faabc8cb493c6", func := "klaxon/klaxonlaw07.KeysBegin", spec := "keysBegin", inPlace := ["internal/abi.NoEscape"], unfollowed := true, recurses := true, apart := false, narrowed := true }
def KeysBeginUptoSaid : Prop := keysBeginUptoRow.holds Try.pinned (OpenSpec.upto keysBeginSpec)

/-- 'klaxonlaw07.KeysOrder', WHERE WHAT IT READS IS OF BULK AT MOST 1048576: true; the input reads as it did. -/
def keysOrderUptoRow : OpenClaim := { program := "ytephhhflifjcmaa", sum := "f176dbbe4f92d1c7aa8c09d6f5dd84620d047307a8550ba4b44faabc8cb493c6", func := "klaxon/klaxonlaw07.KeysOrder", spec := "keysOrder", inPlace := ["internal/abi.NoEscape", "internal/bytealg.abigen_runtime_cmpstring"], unfollowed := true, recurses := true, apart := false, narrowed := true }
def KeysOrderUptoSaid : Prop := keysOrderUptoRow.holds Try.pinned (OpenSpec.upto keysOrderSpec)

end Rows
end Go.Proofs.Ytephhhflifjcmaa
