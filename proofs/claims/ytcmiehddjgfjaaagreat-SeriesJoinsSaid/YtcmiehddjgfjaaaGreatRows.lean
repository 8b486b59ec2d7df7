/-
  No cell of these rows narrows 'for every input' (looked for: loops, veiled, ifaces, maps, wideKeys, modest, calm, conditions, laid).
  DERIVED. THE GIVEN ROWS OF THIS SEAT. 6 by the template 'for every input the law returns true; each argument reads behind the call as it read before'; 0 by the template 'total and deterministic' (their statements: YtcmiehddjgfjaaaGreatTotals.lean).
  GIVEN WITH THE SEED: the statements are not yours to turn. If you find one false, say at which input.
  Laid BY PROGRAM, IN A SANDBOX (cutbox-rows.mjs): the forced cells as the released guide's own fill.sh prints them over the translation 66fa10fd2a33f5d1… (all of the seat's roots in one cut). By AI agents, Wed Nov 11 2026. No macro, syntax, notation, axiom, sorry.
-/
import Derived.Test.YtcmiehddjgfjaaaGreatChecked
import GoSem.Claim
import GoSem.ClaimJoined
import GoSem.ClaimMapViews
import Derived.JoinedTies
import Derived.KernelRfl
namespace Go.Proofs.YtcmiehddjgfjaaaGreat
/- THE CELL 'sum', in the pinned program and in every row, IS THE sha256 OF THE DUMP (.gsa) THAT YtcmiehddjgfjaaaGreatProg.lean LOADS. Nothing in Lean hashes anything: it is a label: what it is worth is what the hold of that sum in a sandbox is worth. -/
noncomputable def Tryz.pinned : Pinned := { name := "ytcmiehddjgfjaaagreat", sum := "66fa10fd2a33f5d1bc87b7ac6cfcdb9339be047cc3b2d853c4ff8ff771a82cb3", checked := Tryz.checked }
namespace Rows
def none {H : Type} : Left H := { results := [], args := [] }

/-- 'klaxonlaw10.SeriesReduce': WHATEVER THE INPUT: true; the input reads as it did. -/
def seriesReduceSpec : ChangeSpec := { name := "seriesReduce", fn := fun _ => fun
  | [d1, d2, d3] => { results := [.lit (.bool true)], args := [d1, d2, d3] }
  | _ => none }
def seriesReduceRow : OpenClaim := { program := "ytcmiehddjgfjaaagreat", sum := "66fa10fd2a33f5d1bc87b7ac6cfcdb9339be047cc3b2d853c4ff8ff771a82cb3", func := "klaxon/klaxonlaw10.SeriesReduce", spec := "seriesReduce", inPlace := ["internal/bytealg.abigen_runtime_cmpstring"], unfollowed := true, recurses := true, named := ["math/bits.divideError", "math/bits.overflowError"], apart := false }
def SeriesReduceSaid : Prop := seriesReduceRow.holds Tryz.pinned (OpenSpec.ofChange seriesReduceSpec)

/-- ITS FALSE NEIGHBOUR: 'it returns false'. Refute it at one input. -/
def seriesReduceWrong : ChangeSpec := { name := "seriesReduce", fn := fun _ => fun
  | [d1, d2, d3] => { results := [.lit (.bool false)], args := [d1, d2, d3] }
  | _ => none }
def SeriesReduceWrongFalsely : Prop := seriesReduceRow.holds Tryz.pinned (OpenSpec.ofChange seriesReduceWrong)

/-- 'klaxonlaw10.SeriesOrder': WHATEVER THE INPUT: true; the input reads as it did. -/
def seriesOrderSpec : ChangeSpec := { name := "seriesOrder", fn := fun _ => fun
  | [d1, d2, d3] => { results := [.lit (.bool true)], args := [d1, d2, d3] }
  | _ => none }
def seriesOrderRow : OpenClaim := { program := "ytcmiehddjgfjaaagreat", sum := "66fa10fd2a33f5d1bc87b7ac6cfcdb9339be047cc3b2d853c4ff8ff771a82cb3", func := "klaxon/klaxonlaw10.SeriesOrder", spec := "seriesOrder", inPlace := ["internal/bytealg.abigen_runtime_cmpstring"], unfollowed := true, recurses := true, named := ["math/bits.divideError", "math/bits.overflowError"], apart := false }
def SeriesOrderSaid : Prop := seriesOrderRow.holds Tryz.pinned (OpenSpec.ofChange seriesOrderSpec)

/-- ITS FALSE NEIGHBOUR: 'it returns false'. Refute it at one input. -/
def seriesOrderWrong : ChangeSpec := { name := "seriesOrder", fn := fun _ => fun
  | [d1, d2, d3] => { results := [.lit (.bool false)], args := [d1, d2, d3] }
  | _ => none }
def SeriesOrderWrongFalsely : Prop := seriesOrderRow.holds Tryz.pinned (OpenSpec.ofChange seriesOrderWrong)

/-- 'klaxonlaw10.SeriesParts': WHATEVER THE INPUT: true; the input reads as it did. -/
def seriesPartsSpec : ChangeSpec := { name := "seriesParts", fn := fun _ => fun
  | [d1, d2] => { results := [.lit (.bool true)], args := [d1, d2] }
  | _ => none }
def seriesPartsRow : OpenClaim := { program := "ytcmiehddjgfjaaagreat", sum := "66fa10fd2a33f5d1bc87b7ac6cfcdb9339be047cc3b2d853c4ff8ff771a82cb3", func := "klaxon/klaxonlaw10.SeriesParts", spec := "seriesParts", inPlace := ["internal/bytealg.abigen_runtime_cmpstring"], unfollowed := true, recurses := true, named := ["math/bits.divideError", "math/bits.overflowError"], apart := false }
def SeriesPartsSaid : Prop := seriesPartsRow.holds Tryz.pinned (OpenSpec.ofChange seriesPartsSpec)

/-- ITS FALSE NEIGHBOUR: 'it returns false'. Refute it at one input. -/
def seriesPartsWrong : ChangeSpec := { name := "seriesParts", fn := fun _ => fun
  | [d1, d2] => { results := [.lit (.bool false)], args := [d1, d2] }
  | _ => none }
def SeriesPartsWrongFalsely : Prop := seriesPartsRow.holds Tryz.pinned (OpenSpec.ofChange seriesPartsWrong)

/-- 'klaxonlaw10.SeriesScalar': WHATEVER THE INPUT: true; the input reads as it did. -/
def seriesScalarSpec : ChangeSpec := { name := "seriesScalar", fn := fun _ => fun
  | [d1, d2, d3] => { results := [.lit (.bool true)], args := [d1, d2, d3] }
  | _ => none }
def seriesScalarRow : OpenClaim := { program := "ytcmiehddjgfjaaagreat", sum := "66fa10fd2a33f5d1bc87b7ac6cfcdb9339be047cc3b2d853c4ff8ff771a82cb3", func := "klaxon/klaxonlaw10.SeriesScalar", spec := "seriesScalar", inPlace := ["internal/bytealg.abigen_runtime_cmpstring"], unfollowed := true, recurses := true, named := ["math/bits.divideError", "math/bits.overflowError"], apart := false }
def SeriesScalarSaid : Prop := seriesScalarRow.holds Tryz.pinned (OpenSpec.ofChange seriesScalarSpec)

/-- ITS FALSE NEIGHBOUR: 'it returns false'. Refute it at one input. -/
def seriesScalarWrong : ChangeSpec := { name := "seriesScalar", fn := fun _ => fun
  | [d1, d2, d3] => { results := [.lit (.bool false)], args := [d1, d2, d3] }
  | _ => none }
def SeriesScalarWrongFalsely : Prop := seriesScalarRow.holds Tryz.pinned (OpenSpec.ofChange seriesScalarWrong)

/-- 'klaxonlaw10.SeriesTurned': WHATEVER THE INPUT: true; the input reads as it did. -/
def seriesTurnedSpec : ChangeSpec := { name := "seriesTurned", fn := fun _ => fun
  | [d] => { results := [.lit (.bool true)], args := [d] }
  | _ => none }
def seriesTurnedRow : OpenClaim := { program := "ytcmiehddjgfjaaagreat", sum := "66fa10fd2a33f5d1bc87b7ac6cfcdb9339be047cc3b2d853c4ff8ff771a82cb3", func := "klaxon/klaxonlaw10.SeriesTurned", spec := "seriesTurned", inPlace := ["internal/bytealg.abigen_runtime_cmpstring"], unfollowed := true, recurses := true, named := ["math/bits.divideError", "math/bits.overflowError"], apart := false }
def SeriesTurnedSaid : Prop := seriesTurnedRow.holds Tryz.pinned (OpenSpec.ofChange seriesTurnedSpec)

/-- ITS FALSE NEIGHBOUR: 'it returns false'. Refute it at one input. -/
def seriesTurnedWrong : ChangeSpec := { name := "seriesTurned", fn := fun _ => fun
  | [d] => { results := [.lit (.bool false)], args := [d] }
  | _ => none }
def SeriesTurnedWrongFalsely : Prop := seriesTurnedRow.holds Tryz.pinned (OpenSpec.ofChange seriesTurnedWrong)

/-- 'klaxonlaw10.SeriesJoins': WHATEVER THE INPUT: true; the input reads as it did. -/
def seriesJoinsSpec : ChangeSpec := { name := "seriesJoins", fn := fun _ => fun
  | [d1, d2, d3, d4] => { results := [.lit (.bool true)], args := [d1, d2, d3, d4] }
  | _ => none }
def seriesJoinsRow : OpenClaim := { program := "ytcmiehddjgfjaaagreat", sum := "66fa10fd2a33f5d1bc87b7ac6cfcdb9339be047cc3b2d853c4ff8ff771a82cb3", func := "klaxon/klaxonlaw10.SeriesJoins", spec := "seriesJoins", inPlace := ["internal/bytealg.abigen_runtime_cmpstring"], unfollowed := true, recurses := true, named := ["math/bits.divideError", "math/bits.overflowError"], apart := false }
def SeriesJoinsSaid : Prop := seriesJoinsRow.holds Tryz.pinned (OpenSpec.ofChange seriesJoinsSpec)

/-- ITS FALSE NEIGHBOUR: 'it returns false'. Refute it at one input. -/
def seriesJoinsWrong : ChangeSpec := { name := "seriesJoins", fn := fun _ => fun
  | [d1, d2, d3, d4] => { results := [.lit (.bool false)], args := [d1, d2, d3, d4] }
  | _ => none }
def SeriesJoinsWrongFalsely : Prop := seriesJoinsRow.holds Tryz.pinned (OpenSpec.ofChange seriesJoinsWrong)

/- THE SECOND FORM. 'bulk': how many values and letters a reading holds, each counted each time it is reached (what is shared counts as often as it is met; a slice's spare places count too). A statement '..UptoSaid' is the law's where the arguments, and the package variables that the reading takes, are together of bulk at most 1048576: NARROWER than '..Said'. Prove '..Said' where nothing that the law and all that it calls make is longer than what came in: it says more and counts as full. Else prove '..UptoSaid'. A law counts once. -/
mutual
def uptoBulk {H : Type} : DataW H → Nat
  | .lit (.string bytes) => bytes.length + 1
  | .lit _ => 1
  | .nil => 1
  | .ptr d => uptoBulk d + 1
  | .slice elems spare => uptoBulkAll elems + uptoBulkAll spare + 1
  | .agg parts => uptoBulkAll parts + 1
  | .iface _ d => uptoBulk d + 1
  | .map entries => uptoBulkEntries entries + 1
  | .held _ => 1
def uptoBulkAll {H : Type} : List (DataW H) → Nat
  | [] => 0
  | d :: r => uptoBulk d + uptoBulkAll r
def uptoBulkEntries {H : Type} : List (Lit × DataW H) → Nat
  | [] => 0
  | x :: r => uptoBulkEntry x + uptoBulkEntries r
def uptoBulkEntry {H : Type} : Lit × DataW H → Nat
  | (.string bytes, d) => bytes.length + uptoBulk d + 1
  | (_, d) => uptoBulk d + 1
 end
def uptoSmall : (H : Type) → List (DataW H) → Bool := fun _ ds => decide (uptoBulkAll ds ≤ 1048576)
def OpenSpec.upto (s : _root_.Go.ChangeSpec) : _root_.Go.OpenSpec := { _root_.Go.OpenSpec.ofChange s with cond := some uptoSmall }

/-- 'klaxonlaw10.SeriesReduce', WHERE WHAT IT READS IS OF BULK AT MOST 1048576: true; the input reads as it did. -/
def seriesReduceUptoRow : OpenClaim := { program := "ytcmiehddjgfjaaagreat", sum := "66fa10fd2a33f5d1bc87b7ac6cfcdb9339be047cc3b2d853c4ff8ff771a82cb3", func := "klaxon/klaxonlaw10.SeriesReduce", spec := "seriesReduce", inPlace := ["internal/bytealg.abigen_runtime_cmpstring"], unfollowed := true, recurses := true, named := ["math/bits.divideError", "math/bits.overflowError"], apart := false, narrowed := true }
def SeriesReduceUptoSaid : Prop := seriesReduceUptoRow.holds Tryz.pinned (OpenSpec.upto seriesReduceSpec)

/-- 'klaxonlaw10.SeriesOrder', WHERE WHAT IT READS IS OF BULK AT MOST 1048576: true; the input reads as it did. -/
def seriesOrderUptoRow : OpenClaim := { program := "ytcmiehddjgfjaaagreat", sum := "66fa10fd2a33f5d1bc87b7ac6cfcdb9339be047cc3b2d853c4ff8ff771a82cb3", func := "klaxon/klaxonlaw10.SeriesOrder", spec := "seriesOrder", inPlace := ["internal/bytealg.abigen_runtime_cmpstring"], unfollowed := true, recurses := true, named := ["math/bits.divideError", "math/bits.overflowError"], apart := false, narrowed := true }
def SeriesOrderUptoSaid : Prop := seriesOrderUptoRow.holds Tryz.pinned (OpenSpec.upto seriesOrderSpec)

/-- 'klaxonlaw10.SeriesParts', WHERE WHAT IT READS IS OF BULK AT MOST 1048576: true; the input reads as it did. -/
def seriesPartsUptoRow : OpenClaim := { program := "ytcmiehddjgfjaaagreat", sum := "66fa10fd2a33f5d1bc87b7ac6cfcdb9339be047cc3b2d853c4ff8ff771a82cb3", func := "klaxon/klaxonlaw10.SeriesParts", spec := "seriesParts", inPlace := ["internal/bytealg.abigen_runtime_cmpstring"], unfollowed := true, recurses := true, named := ["math/bits.divideError", "math/bits.overflowError"], apart := false, narrowed := true }
def SeriesPartsUptoSaid : Prop := seriesPartsUptoRow.holds Tryz.pinned (OpenSpec.upto seriesPartsSpec)

/-- 'klaxonlaw10.SeriesScalar', WHERE WHAT IT READS IS OF BULK AT MOST 1048576: true; the input reads as it did. -/
def seriesScalarUptoRow : OpenClaim := { program := "ytcmiehddjgfjaaagreat", sum := "66fa10fd2a33f5d1bc87b7ac6cfcdb9339be047cc3b2d853c4ff8ff771a82cb3", func := "klaxon/klaxonlaw10.SeriesScalar", spec := "seriesScalar", inPlace := ["internal/bytealg.abigen_runtime_cmpstring"], unfollowed := true, recurses := true, named := ["math/bits.divideError", "math/bits.overflowError"], apart := false, narrowed := true }
def SeriesScalarUptoSaid : Prop := seriesScalarUptoRow.holds Tryz.pinned (OpenSpec.upto seriesScalarSpec)

/-- 'klaxonlaw10.SeriesTurned', WHERE WHAT IT READS IS OF BULK AT MOST 1048576: true; the input reads as it did. -/
def seriesTurnedUptoRow : OpenClaim := { program := "ytcmiehddjgfjaaagreat", sum := "66fa10fd2a33f5d1bc87b7ac6cfcdb9339be047cc3b2d853c4ff8ff771a82cb3", func := "klaxon/klaxonlaw10.SeriesTurned", spec := "seriesTurned", inPlace := ["internal/bytealg.abigen_runtime_cmpstring"], unfollowed := true, recurses := true, named := ["math/bits.divideError", "math/bits.overflowError"], apart := false, narrowed := true }
def SeriesTurnedUptoSaid : Prop := seriesTurnedUptoRow.holds Tryz.pinned (OpenSpec.upto seriesTurnedSpec)

/-- 'klaxonlaw10.SeriesJoins', WHERE WHAT IT READS IS OF BULK AT MOST 1048576: true; the input reads as it did. -/
def seriesJoinsUptoRow : OpenClaim := { program := "ytcmiehddjgfjaaagreat", sum := "66fa10fd2a33f5d1bc87b7ac6cfcdb9339be047cc3b2d853c4ff8ff771a82cb3", func := "klaxon/klaxonlaw10.SeriesJoins", spec := "seriesJoins", inPlace := ["internal/bytealg.abigen_runtime_cmpstring"], unfollowed := true, recurses := true, named := ["math/bits.divideError", "math/bits.overflowError"], apart := false, narrowed := true }
def SeriesJoinsUptoSaid : Prop := seriesJoinsUptoRow.holds Tryz.pinned (OpenSpec.upto seriesJoinsSpec)

end Rows
end Go.Proofs.YtcmiehddjgfjaaaGreat
