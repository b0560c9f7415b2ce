/-
  No cell of these rows narrows 'for every input' (looked for: loops, veiled, ifaces, maps, wideKeys, modest, calm, conditions, laid).
  DERIVED. THE GIVEN ROWS OF THIS SEAT. 5 by the template 'for every input the law returns true; each argument reads behind the call as it read before'; 0 by the template 'total and deterministic' (their statements: YtekiemlniegddaaTotals.lean).
  GIVEN WITH THE SEED: the statements are not yours to turn. If you find one false, say at which input.
  Laid BY PROGRAM, IN A SANDBOX (cutbox-rows.mjs): the forced cells as the released guide's own fill.sh prints them over the translation 910344ce787487e1… (all of the seat's roots in one cut). By AI agents, Wed Nov 11 2026. No macro, syntax, notation, axiom, sorry.
-/
import Derived.Test.YtekiemlniegddaaChecked
import GoSem.Claim
import GoSem.ClaimJoined
import GoSem.ClaimMapViews
import Derived.JoinedTies
import Derived.KernelRfl
namespace Go.Proofs.Ytekiemlniegddaa
/- THE CELL 'sum', in the pinned program and in every row, IS THE sha256 OF THE DUMP (.gsa) THAT YtekiemlniegddaaProg.lean LOADS. Nothing in Lean hashes anything: it is a label: what it is worth is what the hold of that sum in a sandbox is worth. -/
noncomputable def Try.pinned : Pinned := { name := "ytekiemlniegddaa", sum := "910344ce787487e163a4b429d2210c64ef96844e7bc3bc531f75a3bc3881b201", checked := Try.checked }
namespace Rows
def none {H : Type} : Left H := { results := [], args := [] }

/-- 'sightbenchlaw03.PipeMeans': WHATEVER THE INPUT: true; the input reads as it did. -/
def pipeMeansSpec : ChangeSpec := { name := "pipeMeans", fn := fun _ => fun
  | [d1, d2] => { results := [.lit (.bool true)], args := [d1, d2] }
  | _ => none }
def pipeMeansRow : OpenClaim := { program := "ytekiemlniegddaa", sum := "910344ce787487e163a4b429d2210c64ef96844e7bc3bc531f75a3bc3881b201", func := "sightbench/sightbenchlaw03.PipeMeans", spec := "pipeMeans", unfollowed := true, recurses := true, apart := false }
def PipeMeansSaid : Prop := pipeMeansRow.holds Try.pinned (OpenSpec.ofChange pipeMeansSpec)

/-- ITS FALSE NEIGHBOUR: 'it returns false'. Refute it at one input. -/
def pipeMeansWrong : ChangeSpec := { name := "pipeMeans", fn := fun _ => fun
  | [d1, d2] => { results := [.lit (.bool false)], args := [d1, d2] }
  | _ => none }
def PipeMeansWrongFalsely : Prop := pipeMeansRow.holds Try.pinned (OpenSpec.ofChange pipeMeansWrong)

/-- 'sightbenchlaw03.PipeRuns': WHATEVER THE INPUT: true; the input reads as it did. -/
def pipeRunsSpec : ChangeSpec := { name := "pipeRuns", fn := fun _ => fun
  | [d1, d2, d3] => { results := [.lit (.bool true)], args := [d1, d2, d3] }
  | _ => none }
def pipeRunsRow : OpenClaim := { program := "ytekiemlniegddaa", sum := "910344ce787487e163a4b429d2210c64ef96844e7bc3bc531f75a3bc3881b201", func := "sightbench/sightbenchlaw03.PipeRuns", spec := "pipeRuns", unfollowed := true, recurses := true, apart := false }
def PipeRunsSaid : Prop := pipeRunsRow.holds Try.pinned (OpenSpec.ofChange pipeRunsSpec)

/-- ITS FALSE NEIGHBOUR: 'it returns false'. Refute it at one input. -/
def pipeRunsWrong : ChangeSpec := { name := "pipeRuns", fn := fun _ => fun
  | [d1, d2, d3] => { results := [.lit (.bool false)], args := [d1, d2, d3] }
  | _ => none }
def PipeRunsWrongFalsely : Prop := pipeRunsRow.holds Try.pinned (OpenSpec.ofChange pipeRunsWrong)

/-- 'sightbenchlaw03.PipeSizes': WHATEVER THE INPUT: true; the input reads as it did. -/
def pipeSizesSpec : ChangeSpec := { name := "pipeSizes", fn := fun _ => fun
  | [d1, d2] => { results := [.lit (.bool true)], args := [d1, d2] }
  | _ => none }
def pipeSizesRow : OpenClaim := { program := "ytekiemlniegddaa", sum := "910344ce787487e163a4b429d2210c64ef96844e7bc3bc531f75a3bc3881b201", func := "sightbench/sightbenchlaw03.PipeSizes", spec := "pipeSizes", unfollowed := true, recurses := true, apart := false }
def PipeSizesSaid : Prop := pipeSizesRow.holds Try.pinned (OpenSpec.ofChange pipeSizesSpec)

/-- ITS FALSE NEIGHBOUR: 'it returns false'. Refute it at one input. -/
def pipeSizesWrong : ChangeSpec := { name := "pipeSizes", fn := fun _ => fun
  | [d1, d2] => { results := [.lit (.bool false)], args := [d1, d2] }
  | _ => none }
def PipeSizesWrongFalsely : Prop := pipeSizesRow.holds Try.pinned (OpenSpec.ofChange pipeSizesWrong)

/-- 'sightbenchlaw03.PipeShort': WHATEVER THE INPUT: true; the input reads as it did. -/
def pipeShortSpec : ChangeSpec := { name := "pipeShort", fn := fun _ => fun
  | [d1, d2] => { results := [.lit (.bool true)], args := [d1, d2] }
  | _ => none }
def pipeShortRow : OpenClaim := { program := "ytekiemlniegddaa", sum := "910344ce787487e163a4b429d2210c64ef96844e7bc3bc531f75a3bc3881b201", func := "sightbench/sightbenchlaw03.PipeShort", spec := "pipeShort", unfollowed := true, recurses := true, apart := false }
def PipeShortSaid : Prop := pipeShortRow.holds Try.pinned (OpenSpec.ofChange pipeShortSpec)

/-- ITS FALSE NEIGHBOUR: 'it returns false'. Refute it at one input. -/
def pipeShortWrong : ChangeSpec := { name := "pipeShort", fn := fun _ => fun
  | [d1, d2] => { results := [.lit (.bool false)], args := [d1, d2] }
  | _ => none }
def PipeShortWrongFalsely : Prop := pipeShortRow.holds Try.pinned (OpenSpec.ofChange pipeShortWrong)

/-- 'sightbenchlaw03.PipeExamples': WHATEVER THE INPUT: true; the input reads as it did. -/
def pipeExamplesSpec : ChangeSpec := { name := "pipeExamples", fn := fun _ => fun
  | [] => { results := [.lit (.bool true)], args := [] }
  | _ => none }
def pipeExamplesRow : OpenClaim := { program := "ytekiemlniegddaa", sum := "910344ce787487e163a4b429d2210c64ef96844e7bc3bc531f75a3bc3881b201", func := "sightbench/sightbenchlaw03.PipeExamples", spec := "pipeExamples", unfollowed := true, recurses := true, apart := false }
def PipeExamplesSaid : Prop := pipeExamplesRow.holds Try.pinned (OpenSpec.ofChange pipeExamplesSpec)

/-- ITS FALSE NEIGHBOUR: 'it returns false'. Refute it at one input. -/
def pipeExamplesWrong : ChangeSpec := { name := "pipeExamples", fn := fun _ => fun
  | [] => { results := [.lit (.bool false)], args := [] }
  | _ => none }
def PipeExamplesWrongFalsely : Prop := pipeExamplesRow.holds Try.pinned (OpenSpec.ofChange pipeExamplesWrong)

/- THE SECOND FORM. 'bulk': how many values and letters a reading holds, each counted each time it is reached (what is shared counts as often as it is met; a slice's spare places count too). A statement '..UptoSaid' is the law's where the arguments, and the package variables that the reading takes, are together of bulk at most 1048576: NARROWER than '..Said'. Prove '..Said' where nothing that the law and all that it calls make is longer than what came in: it says more and counts as full. Else prove '..UptoSaid'. A law counts once. -/
mutual
def uptoBulk {H : Type} : DataW H → Nat
  | .lit (.string bytes) => bytes.length + 1
  | .lit _ => 1
  | .nil => 1
  | .ptr d => uptoBulk d + 1
  | .slice elems spare => uptoBulkAll elems + uptoBulkAll spare + 1
  | .agg parts => uptoBulkAll parts + 1
  | .iface _ d => uptoBulk d + 1
  | .map entries => uptoBulkEntries entries + 1
  | .held _ => 1
def uptoBulkAll {H : Type} : List (DataW H) → Nat
  | [] => 0
  | d :: r => uptoBulk d + uptoBulkAll r
def uptoBulkEntries {H : Type} : List (Lit × DataW H) → Nat
  | [] => 0
  | x :: r => uptoBulkEntry x + uptoBulkEntries r
def uptoBulkEntry {H : Type} : Lit × DataW H → Nat
  | (.string bytes, d) => bytes.length + uptoBulk d + 1
  | (_, d) => uptoBulk d + 1
 end
def uptoSmall : (H : Type) → List (DataW H) → Bool := fun _ ds => decide (uptoBulkAll ds ≤ 1048576)
def OpenSpec.upto (s : _root_.Go.ChangeSpec) : _root_.Go.OpenSpec := { _root_.Go.OpenSpec.ofChange s with cond := some uptoSmall }

/-- 'sightbenchlaw03.PipeMeans', WHERE WHAT IT READS IS OF BULK AT MOST 1048576: true; the input reads as it did. -/
def pipeMeansUptoRow : OpenClaim := { program := "ytekiemlniegddaa", sum := "910344ce787487e163a4b429d2210c64ef96844e7bc3bc531f75a3bc3881b201", func := "sightbench/sightbenchlaw03.PipeMeans", spec := "pipeMeans", unfollowed := true, recurses := true, apart := false, narrowed := true }
def PipeMeansUptoSaid : Prop := pipeMeansUptoRow.holds Try.pinned (OpenSpec.upto pipeMeansSpec)

/-- 'sightbenchlaw03.PipeRuns', WHERE WHAT IT READS IS OF BULK AT MOST 1048576: true; the input reads as it did. -/
def pipeRunsUptoRow : OpenClaim := { program := "ytekiemlniegddaa", sum := "910344ce787487e163a4b429d2210c64ef96844e7bc3bc531f75a3bc3881b201", func := "sightbench/sightbenchlaw03.PipeRuns", spec := "pipeRuns", unfollowed := true, recurses := true, apart := false, narrowed := true }
def PipeRunsUptoSaid : Prop := pipeRunsUptoRow.holds Try.pinned (OpenSpec.upto pipeRunsSpec)

/-- 'sightbenchlaw03.PipeSizes', WHERE WHAT IT READS IS OF BULK AT MOST 1048576: true; the input reads as it did. -/
def pipeSizesUptoRow : OpenClaim := { program := "ytekiemlniegddaa", sum := "910344ce787487e163a4b429d2210c64ef96844e7bc3bc531f75a3bc3881b201", func := "sightbench/sightbenchlaw03.PipeSizes", spec := "pipeSizes", unfollowed := true, recurses := true, apart := false, narrowed := true }
def PipeSizesUptoSaid : Prop := pipeSizesUptoRow.holds Try.pinned (OpenSpec.upto pipeSizesSpec)

/-- 'sightbenchlaw03.PipeShort', WHERE WHAT IT READS IS OF BULK AT MOST 1048576: true; the input reads as it did. -/
def pipeShortUptoRow : OpenClaim := { program := "ytekiemlniegddaa", sum := "910344ce787487e163a4b429d2210c64ef96844e7bc3bc531f75a3bc3881b201", func := "sightbench/sightbenchlaw03.PipeShort", spec := "pipeShort", unfollowed := true, recurses := true, apart := false, narrowed := true }
def PipeShortUptoSaid : Prop := pipeShortUptoRow.holds Try.pinned (OpenSpec.upto pipeShortSpec)

/-- 'sightbenchlaw03.PipeExamples', WHERE WHAT IT READS IS OF BULK AT MOST 1048576: true; the input reads as it did. -/
def pipeExamplesUptoRow : OpenClaim := { program := "ytekiemlniegddaa", sum := "910344ce787487e163a4b429d2210c64ef96844e7bc3bc531f75a3bc3881b201", func := "sightbench/sightbenchlaw03.PipeExamples", spec := "pipeExamples", unfollowed := true, recurses := true, apart := false, narrowed := true }
def PipeExamplesUptoSaid : Prop := pipeExamplesUptoRow.holds Try.pinned (OpenSpec.upto pipeExamplesSpec)

end Rows
end Go.Proofs.Ytekiemlniegddaa
