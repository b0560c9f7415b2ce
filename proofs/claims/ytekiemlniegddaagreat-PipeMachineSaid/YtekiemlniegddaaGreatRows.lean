/-
  No cell of these rows narrows 'for every input' (looked for: loops, veiled, ifaces, maps, wideKeys, modest, calm, conditions, laid).
  DERIVED. THE GIVEN ROWS OF THIS SEAT. 9 by the template 'for every input the law returns true; each argument reads behind the call as it read before'; 0 by the template 'total and deterministic' (their statements: YtekiemlniegddaaGreatTotals.lean).
  GIVEN WITH THE SEED: the statements are not yours to turn. If you find one false, say at which input.
  Laid BY PROGRAM, IN A SANDBOX (cutbox-rows.mjs): the forced cells as the released guide's own fill.sh prints them over the translation ef0d9e2620e14e03… (all of the seat's roots in one cut). By AI agents, Wed Nov 11 2026. No macro, syntax, notation, axiom, sorry.
-/
import Derived.Test.YtekiemlniegddaaGreatChecked
import GoSem.Claim
import GoSem.ClaimJoined
import GoSem.ClaimMapViews
import Derived.JoinedTies
import Derived.KernelRfl
namespace Go.Proofs.YtekiemlniegddaaGreat
/- THE CELL 'sum', in the pinned program and in every row, IS THE sha256 OF THE DUMP (.gsa) THAT YtekiemlniegddaaGreatProg.lean LOADS. Nothing in Lean hashes anything: it is a label: what it is worth is what the hold of that sum in a sandbox is worth. -/
noncomputable def Tryz.pinned : Pinned := { name := "ytekiemlniegddaagreat", sum := "ef0d9e2620e14e03b35e925375d514c3536c7c6d4d469a7fbdffed0ea2ba9d0f", checked := Tryz.checked }
namespace Rows
def none {H : Type} : Left H := { results := [], args := [] }

/-- 'sightbenchtop.TopCertified': WHATEVER THE INPUT: true; the input reads as it did. -/
def topCertifiedSpec : ChangeSpec := { name := "topCertified", fn := fun _ => fun
  | [d1, d2, d3, d4, d5, d6, d7, d8] => { results := [.lit (.bool true)], args := [d1, d2, d3, d4, d5, d6, d7, d8] }
  | _ => none }
def topCertifiedRow : OpenClaim := { program := "ytekiemlniegddaagreat", sum := "ef0d9e2620e14e03b35e925375d514c3536c7c6d4d469a7fbdffed0ea2ba9d0f", func := "sightbench/sightbenchtop.TopCertified", spec := "topCertified", unfollowed := true, recurses := true, apart := false }
def TopCertifiedSaid : Prop := topCertifiedRow.holds Tryz.pinned (OpenSpec.ofChange topCertifiedSpec)

/-- ITS FALSE NEIGHBOUR: 'it returns false'. Refute it at one input. -/
def topCertifiedWrong : ChangeSpec := { name := "topCertified", fn := fun _ => fun
  | [d1, d2, d3, d4, d5, d6, d7, d8] => { results := [.lit (.bool false)], args := [d1, d2, d3, d4, d5, d6, d7, d8] }
  | _ => none }
def TopCertifiedWrongFalsely : Prop := topCertifiedRow.holds Tryz.pinned (OpenSpec.ofChange topCertifiedWrong)

/-- 'sightbenchlaw03.PipeCompiled': WHATEVER THE INPUT: true; the input reads as it did. -/
def pipeCompiledSpec : ChangeSpec := { name := "pipeCompiled", fn := fun _ => fun
  | [d1, d2, d3] => { results := [.lit (.bool true)], args := [d1, d2, d3] }
  | _ => none }
def pipeCompiledRow : OpenClaim := { program := "ytekiemlniegddaagreat", sum := "ef0d9e2620e14e03b35e925375d514c3536c7c6d4d469a7fbdffed0ea2ba9d0f", func := "sightbench/sightbenchlaw03.PipeCompiled", spec := "pipeCompiled", unfollowed := true, recurses := true, apart := false }
def PipeCompiledSaid : Prop := pipeCompiledRow.holds Tryz.pinned (OpenSpec.ofChange pipeCompiledSpec)

/-- ITS FALSE NEIGHBOUR: 'it returns false'. Refute it at one input. -/
def pipeCompiledWrong : ChangeSpec := { name := "pipeCompiled", fn := fun _ => fun
  | [d1, d2, d3] => { results := [.lit (.bool false)], args := [d1, d2, d3] }
  | _ => none }
def PipeCompiledWrongFalsely : Prop := pipeCompiledRow.holds Tryz.pinned (OpenSpec.ofChange pipeCompiledWrong)

/-- 'sightbenchlaw03.PipeSteps': WHATEVER THE INPUT: true; the input reads as it did. -/
def pipeStepsSpec : ChangeSpec := { name := "pipeSteps", fn := fun _ => fun
  | [d1, d2] => { results := [.lit (.bool true)], args := [d1, d2] }
  | _ => none }
def pipeStepsRow : OpenClaim := { program := "ytekiemlniegddaagreat", sum := "ef0d9e2620e14e03b35e925375d514c3536c7c6d4d469a7fbdffed0ea2ba9d0f", func := "sightbench/sightbenchlaw03.PipeSteps", spec := "pipeSteps", unfollowed := true, recurses := true, apart := false }
def PipeStepsSaid : Prop := pipeStepsRow.holds Tryz.pinned (OpenSpec.ofChange pipeStepsSpec)

/-- ITS FALSE NEIGHBOUR: 'it returns false'. Refute it at one input. -/
def pipeStepsWrong : ChangeSpec := { name := "pipeSteps", fn := fun _ => fun
  | [d1, d2] => { results := [.lit (.bool false)], args := [d1, d2] }
  | _ => none }
def PipeStepsWrongFalsely : Prop := pipeStepsRow.holds Tryz.pinned (OpenSpec.ofChange pipeStepsWrong)

/-- 'sightbenchlaw03.PipeAnywhere': WHATEVER THE INPUT: true; the input reads as it did. -/
def pipeAnywhereSpec : ChangeSpec := { name := "pipeAnywhere", fn := fun _ => fun
  | [d1, d2, d3, d4] => { results := [.lit (.bool true)], args := [d1, d2, d3, d4] }
  | _ => none }
def pipeAnywhereRow : OpenClaim := { program := "ytekiemlniegddaagreat", sum := "ef0d9e2620e14e03b35e925375d514c3536c7c6d4d469a7fbdffed0ea2ba9d0f", func := "sightbench/sightbenchlaw03.PipeAnywhere", spec := "pipeAnywhere", unfollowed := true, recurses := true, apart := false }
def PipeAnywhereSaid : Prop := pipeAnywhereRow.holds Tryz.pinned (OpenSpec.ofChange pipeAnywhereSpec)

/-- ITS FALSE NEIGHBOUR: 'it returns false'. Refute it at one input. -/
def pipeAnywhereWrong : ChangeSpec := { name := "pipeAnywhere", fn := fun _ => fun
  | [d1, d2, d3, d4] => { results := [.lit (.bool false)], args := [d1, d2, d3, d4] }
  | _ => none }
def PipeAnywhereWrongFalsely : Prop := pipeAnywhereRow.holds Tryz.pinned (OpenSpec.ofChange pipeAnywhereWrong)

/-- 'sightbenchlaw03.PipeMonotone': WHATEVER THE INPUT: true; the input reads as it did. -/
def pipeMonotoneSpec : ChangeSpec := { name := "pipeMonotone", fn := fun _ => fun
  | [d1, d2, d3] => { results := [.lit (.bool true)], args := [d1, d2, d3] }
  | _ => none }
def pipeMonotoneRow : OpenClaim := { program := "ytekiemlniegddaagreat", sum := "ef0d9e2620e14e03b35e925375d514c3536c7c6d4d469a7fbdffed0ea2ba9d0f", func := "sightbench/sightbenchlaw03.PipeMonotone", spec := "pipeMonotone", unfollowed := true, recurses := true, apart := false }
def PipeMonotoneSaid : Prop := pipeMonotoneRow.holds Tryz.pinned (OpenSpec.ofChange pipeMonotoneSpec)

/-- ITS FALSE NEIGHBOUR: 'it returns false'. Refute it at one input. -/
def pipeMonotoneWrong : ChangeSpec := { name := "pipeMonotone", fn := fun _ => fun
  | [d1, d2, d3] => { results := [.lit (.bool false)], args := [d1, d2, d3] }
  | _ => none }
def PipeMonotoneWrongFalsely : Prop := pipeMonotoneRow.holds Tryz.pinned (OpenSpec.ofChange pipeMonotoneWrong)

/-- 'sightbenchlaw03.PipeUnused': WHATEVER THE INPUT: true; the input reads as it did. -/
def pipeUnusedSpec : ChangeSpec := { name := "pipeUnused", fn := fun _ => fun
  | [d1, d2, d3, d4] => { results := [.lit (.bool true)], args := [d1, d2, d3, d4] }
  | _ => none }
def pipeUnusedRow : OpenClaim := { program := "ytekiemlniegddaagreat", sum := "ef0d9e2620e14e03b35e925375d514c3536c7c6d4d469a7fbdffed0ea2ba9d0f", func := "sightbench/sightbenchlaw03.PipeUnused", spec := "pipeUnused", unfollowed := true, recurses := true, apart := false }
def PipeUnusedSaid : Prop := pipeUnusedRow.holds Tryz.pinned (OpenSpec.ofChange pipeUnusedSpec)

/-- ITS FALSE NEIGHBOUR: 'it returns false'. Refute it at one input. -/
def pipeUnusedWrong : ChangeSpec := { name := "pipeUnused", fn := fun _ => fun
  | [d1, d2, d3, d4] => { results := [.lit (.bool false)], args := [d1, d2, d3, d4] }
  | _ => none }
def PipeUnusedWrongFalsely : Prop := pipeUnusedRow.holds Tryz.pinned (OpenSpec.ofChange pipeUnusedWrong)

/-- 'sightbenchlaw03.PipeMachine': WHATEVER THE INPUT: true; the input reads as it did. -/
def pipeMachineSpec : ChangeSpec := { name := "pipeMachine", fn := fun _ => fun
  | [d1, d2, d3, d4, d5] => { results := [.lit (.bool true)], args := [d1, d2, d3, d4, d5] }
  | _ => none }
def pipeMachineRow : OpenClaim := { program := "ytekiemlniegddaagreat", sum := "ef0d9e2620e14e03b35e925375d514c3536c7c6d4d469a7fbdffed0ea2ba9d0f", func := "sightbench/sightbenchlaw03.PipeMachine", spec := "pipeMachine", unfollowed := true, recurses := true, apart := false }
def PipeMachineSaid : Prop := pipeMachineRow.holds Tryz.pinned (OpenSpec.ofChange pipeMachineSpec)

/-- ITS FALSE NEIGHBOUR: 'it returns false'. Refute it at one input. -/
def pipeMachineWrong : ChangeSpec := { name := "pipeMachine", fn := fun _ => fun
  | [d1, d2, d3, d4, d5] => { results := [.lit (.bool false)], args := [d1, d2, d3, d4, d5] }
  | _ => none }
def PipeMachineWrongFalsely : Prop := pipeMachineRow.holds Tryz.pinned (OpenSpec.ofChange pipeMachineWrong)

/-- 'sightbenchlaw03.PipeTurned': WHATEVER THE INPUT: true; the input reads as it did. -/
def pipeTurnedSpec : ChangeSpec := { name := "pipeTurned", fn := fun _ => fun
  | [d1, d2] => { results := [.lit (.bool true)], args := [d1, d2] }
  | _ => none }
def pipeTurnedRow : OpenClaim := { program := "ytekiemlniegddaagreat", sum := "ef0d9e2620e14e03b35e925375d514c3536c7c6d4d469a7fbdffed0ea2ba9d0f", func := "sightbench/sightbenchlaw03.PipeTurned", spec := "pipeTurned", unfollowed := true, recurses := true, apart := false }
def PipeTurnedSaid : Prop := pipeTurnedRow.holds Tryz.pinned (OpenSpec.ofChange pipeTurnedSpec)

/-- ITS FALSE NEIGHBOUR: 'it returns false'. Refute it at one input. -/
def pipeTurnedWrong : ChangeSpec := { name := "pipeTurned", fn := fun _ => fun
  | [d1, d2] => { results := [.lit (.bool false)], args := [d1, d2] }
  | _ => none }
def PipeTurnedWrongFalsely : Prop := pipeTurnedRow.holds Tryz.pinned (OpenSpec.ofChange pipeTurnedWrong)

/-- 'sightbenchlaw03.PipeTrimmed': WHATEVER THE INPUT: true; the input reads as it did. -/
def pipeTrimmedSpec : ChangeSpec := { name := "pipeTrimmed", fn := fun _ => fun
  | [d1, d2, d3] => { results := [.lit (.bool true)], args := [d1, d2, d3] }
  | _ => none }
def pipeTrimmedRow : OpenClaim := { program := "ytekiemlniegddaagreat", sum := "ef0d9e2620e14e03b35e925375d514c3536c7c6d4d469a7fbdffed0ea2ba9d0f", func := "sightbench/sightbenchlaw03.PipeTrimmed", spec := "pipeTrimmed", unfollowed := true, recurses := true, apart := false }
def PipeTrimmedSaid : Prop := pipeTrimmedRow.holds Tryz.pinned (OpenSpec.ofChange pipeTrimmedSpec)

/-- ITS FALSE NEIGHBOUR: 'it returns false'. Refute it at one input. -/
def pipeTrimmedWrong : ChangeSpec := { name := "pipeTrimmed", fn := fun _ => fun
  | [d1, d2, d3] => { results := [.lit (.bool false)], args := [d1, d2, d3] }
  | _ => none }
def PipeTrimmedWrongFalsely : Prop := pipeTrimmedRow.holds Tryz.pinned (OpenSpec.ofChange pipeTrimmedWrong)

/- THE SECOND FORM. 'bulk': how many values and letters a reading holds, each counted each time it is reached (what is shared counts as often as it is met; a slice's spare places count too). A statement '..UptoSaid' is the law's where the arguments, and the package variables that the reading takes, are together of bulk at most 1048576: NARROWER than '..Said'. Prove '..Said' where nothing that the law and all that it calls make is longer than what came in: it says more and counts as full. Else prove '..UptoSaid'. A law counts once. -/
mutual
def uptoBulk {H : Type} : DataW H → Nat
  | .lit (.string bytes) => bytes.length + 1
  | .lit _ => 1
  | .nil => 1
  | .ptr d => uptoBulk d + 1
  | .slice elems spare => uptoBulkAll elems + uptoBulkAll spare + 1
  | .agg parts => uptoBulkAll parts + 1
  | .iface _ d => uptoBulk d + 1
  | .map entries => uptoBulkEntries entries + 1
  | .held _ => 1
def uptoBulkAll {H : Type} : List (DataW H) → Nat
  | [] => 0
  | d :: r => uptoBulk d + uptoBulkAll r
def uptoBulkEntries {H : Type} : List (Lit × DataW H) → Nat
  | [] => 0
  | x :: r => uptoBulkEntry x + uptoBulkEntries r
def uptoBulkEntry {H : Type} : Lit × DataW H → Nat
  | (.string bytes, d) => bytes.length + uptoBulk d + 1
  | (_, d) => uptoBulk d + 1
 end
def uptoSmall : (H : Type) → List (DataW H) → Bool := fun _ ds => decide (uptoBulkAll ds ≤ 1048576)
def OpenSpec.upto (s : _root_.Go.ChangeSpec) : _root_.Go.OpenSpec := { _root_.Go.OpenSpec.ofChange s with cond := some uptoSmall }

/-- 'sightbenchtop.TopCertified', WHERE WHAT IT READS IS OF BULK AT MOST 1048576: true; the input reads as it did. -/
def topCertifiedUptoRow : OpenClaim := { program := "ytekiemlniegddaagreat", sum := "ef0d9e2620e14e03b35e925375d514c3536c7c6d4d469a7fbdffed0ea2ba9d0f", func := "sightbench/sightbenchtop.TopCertified", spec := "topCertified", unfollowed := true, recurses := true, apart := false, narrowed := true }
def TopCertifiedUptoSaid : Prop := topCertifiedUptoRow.holds Tryz.pinned (OpenSpec.upto topCertifiedSpec)

/-- 'sightbenchlaw03.PipeCompiled', WHERE WHAT IT READS IS OF BULK AT MOST 1048576: true; the input reads as it did. -/
def pipeCompiledUptoRow : OpenClaim := { program := "ytekiemlniegddaagreat", sum := "ef0d9e2620e14e03b35e925375d514c3536c7c6d4d469a7fbdffed0ea2ba9d0f", func := "sightbench/sightbenchlaw03.PipeCompiled", spec := "pipeCompiled", unfollowed := true, recurses := true, apart := false, narrowed := true }
def PipeCompiledUptoSaid : Prop := pipeCompiledUptoRow.holds Tryz.pinned (OpenSpec.upto pipeCompiledSpec)

/-- 'sightbenchlaw03.PipeSteps', WHERE WHAT IT READS IS OF BULK AT MOST 1048576: true; the input reads as it did. -/
def pipeStepsUptoRow : OpenClaim := { program := "ytekiemlniegddaagreat", sum := "ef0d9e2620e14e03b35e925375d514c3536c7c6d4d469a7fbdffed0ea2ba9d0f", func := "sightbench/sightbenchlaw03.PipeSteps", spec := "pipeSteps", unfollowed := true, recurses := true, apart := false, narrowed := true }
def PipeStepsUptoSaid : Prop := pipeStepsUptoRow.holds Tryz.pinned (OpenSpec.upto pipeStepsSpec)

/-- 'sightbenchlaw03.PipeAnywhere', WHERE WHAT IT READS IS OF BULK AT MOST 1048576: true; the input reads as it did. -/
def pipeAnywhereUptoRow : OpenClaim := { program := "ytekiemlniegddaagreat", sum := "ef0d9e2620e14e03b35e925375d514c3536c7c6d4d469a7fbdffed0ea2ba9d0f", func := "sightbench/sightbenchlaw03.PipeAnywhere", spec := "pipeAnywhere", unfollowed := true, recurses := true, apart := false, narrowed := true }
def PipeAnywhereUptoSaid : Prop := pipeAnywhereUptoRow.holds Tryz.pinned (OpenSpec.upto pipeAnywhereSpec)

/-- 'sightbenchlaw03.PipeMonotone', WHERE WHAT IT READS IS OF BULK AT MOST 1048576: true; the input reads as it did. -/
def pipeMonotoneUptoRow : OpenClaim := { program := "ytekiemlniegddaagreat", sum := "ef0d9e2620e14e03b35e925375d514c3536c7c6d4d469a7fbdffed0ea2ba9d0f", func := "sightbench/sightbenchlaw03.PipeMonotone", spec := "pipeMonotone", unfollowed := true, recurses := true, apart := false, narrowed := true }
def PipeMonotoneUptoSaid : Prop := pipeMonotoneUptoRow.holds Tryz.pinned (OpenSpec.upto pipeMonotoneSpec)

/-- 'sightbenchlaw03.PipeUnused', WHERE WHAT IT READS IS OF BULK AT MOST 1048576: true; the input reads as it did. -/
def pipeUnusedUptoRow : OpenClaim := { program := "ytekiemlniegddaagreat", sum := "ef0d9e2620e14e03b35e925375d514c3536c7c6d4d469a7fbdffed0ea2ba9d0f", func := "sightbench/sightbenchlaw03.PipeUnused", spec := "pipeUnused", unfollowed := true, recurses := true, apart := false, narrowed := true }
def PipeUnusedUptoSaid : Prop := pipeUnusedUptoRow.holds Tryz.pinned (OpenSpec.upto pipeUnusedSpec)

/-- 'sightbenchlaw03.PipeMachine', WHERE WHAT IT READS IS OF BULK AT MOST 1048576: true; the input reads as it did. -/
def pipeMachineUptoRow : OpenClaim := { program := "ytekiemlniegddaagreat", sum := "ef0d9e2620e14e03b35e925375d514c3536c7c6d4d469a7fbdffed0ea2ba9d0f", func := "sightbench/sightbenchlaw03.PipeMachine", spec := "pipeMachine", unfollowed := true, recurses := true, apart := false, narrowed := true }
def PipeMachineUptoSaid : Prop := pipeMachineUptoRow.holds Tryz.pinned (OpenSpec.upto pipeMachineSpec)

/-- 'sightbenchlaw03.PipeTurned', WHERE WHAT IT READS IS OF BULK AT MOST 1048576: true; the input reads as it did. -/
def pipeTurnedUptoRow : OpenClaim := { program := "ytekiemlniegddaagreat", sum := "ef0d9e2620e14e03b35e925375d514c3536c7c6d4d469a7fbdffed0ea2ba9d0f", func := "sightbench/sightbenchlaw03.PipeTurned", spec := "pipeTurned", unfollowed := true, recurses := true, apart := false, narrowed := true }
def PipeTurnedUptoSaid : Prop := pipeTurnedUptoRow.holds Tryz.pinned (OpenSpec.upto pipeTurnedSpec)

/-- 'sightbenchlaw03.PipeTrimmed', WHERE WHAT IT READS IS OF BULK AT MOST 1048576: true; the input reads as it did. -/
def pipeTrimmedUptoRow : OpenClaim := { program := "ytekiemlniegddaagreat", sum := "ef0d9e2620e14e03b35e925375d514c3536c7c6d4d469a7fbdffed0ea2ba9d0f", func := "sightbench/sightbenchlaw03.PipeTrimmed", spec := "pipeTrimmed", unfollowed := true, recurses := true, apart := false, narrowed := true }
def PipeTrimmedUptoSaid : Prop := pipeTrimmedUptoRow.holds Tryz.pinned (OpenSpec.upto pipeTrimmedSpec)

end Rows
end Go.Proofs.YtekiemlniegddaaGreat
