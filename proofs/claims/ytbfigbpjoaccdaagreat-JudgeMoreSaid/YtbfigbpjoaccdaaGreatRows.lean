/-
  No cell of these rows narrows 'for every input' (looked for: loops, veiled, ifaces, maps, wideKeys, modest, calm, conditions, laid).
  DERIVED. THE GIVEN ROWS OF THIS SEAT. 13 by the template 'for every input the law returns true; each argument reads behind the call as it read before'; 0 by the template 'total and deterministic' (their statements: YtbfigbpjoaccdaaGreatTotals.lean).
  GIVEN WITH THE SEED: the statements are not yours to turn. If you find one false, say at which input.
  Laid BY PROGRAM, IN A SANDBOX (cutbox-rows.mjs): the forced cells as the released guide's own fill.sh prints them over the translation 5dac6d65662f98a6… (all of the seat's roots in one cut). By AI agents, Wed Nov 11 2026. No macro, syntax, notation, axiom, sorry.
-/
import Derived.Test.YtbfigbpjoaccdaaGreatChecked
import GoSem.Claim
import GoSem.ClaimJoined
import GoSem.ClaimMapViews
import Derived.JoinedTies
import Derived.KernelRfl
namespace Go.Proofs.YtbfigbpjoaccdaaGreat
/- THE CELL 'sum', in the pinned program and in every row, IS THE sha256 OF THE DUMP (.gsa) THAT YtbfigbpjoaccdaaGreatProg.lean LOADS. Nothing in Lean hashes anything: it is a label: what it is worth is what the hold of that sum in a sandbox is worth. -/
noncomputable def Tryz.pinned : Pinned := { name := "ytbfigbpjoaccdaagreat", sum := "5dac6d65662f98a62b4c7634ba5ccbbcda24c2c704055fcfcd85d0d2eac78c63", checked := Tryz.checked }
namespace Rows
def none {H : Type} : Left H := { results := [], args := [] }

/-- 'sightbenchlaw08.JudgeHolds': WHATEVER THE INPUT: true; the input reads as it did. -/
def judgeHoldsSpec : ChangeSpec := { name := "judgeHolds", fn := fun _ => fun
  | [d1, d2, d3, d4, d5] => { results := [.lit (.bool true)], args := [d1, d2, d3, d4, d5] }
  | _ => none }
def judgeHoldsRow : OpenClaim := { program := "ytbfigbpjoaccdaagreat", sum := "5dac6d65662f98a62b4c7634ba5ccbbcda24c2c704055fcfcd85d0d2eac78c63", func := "sightbench/sightbenchlaw08.JudgeHolds", spec := "judgeHolds", inPlace := ["math/bits.Add64"], unfollowed := true, recurses := true, apart := false }
def JudgeHoldsSaid : Prop := judgeHoldsRow.holds Tryz.pinned (OpenSpec.ofChange judgeHoldsSpec)

/-- ITS FALSE NEIGHBOUR: 'it returns false'. Refute it at one input. -/
def judgeHoldsWrong : ChangeSpec := { name := "judgeHolds", fn := fun _ => fun
  | [d1, d2, d3, d4, d5] => { results := [.lit (.bool false)], args := [d1, d2, d3, d4, d5] }
  | _ => none }
def JudgeHoldsWrongFalsely : Prop := judgeHoldsRow.holds Tryz.pinned (OpenSpec.ofChange judgeHoldsWrong)

/-- 'sightbenchlaw08.JudgeChanges': WHATEVER THE INPUT: true; the input reads as it did. -/
def judgeChangesSpec : ChangeSpec := { name := "judgeChanges", fn := fun _ => fun
  | [d1, d2, d3, d4, d5, d6, d7] => { results := [.lit (.bool true)], args := [d1, d2, d3, d4, d5, d6, d7] }
  | _ => none }
def judgeChangesRow : OpenClaim := { program := "ytbfigbpjoaccdaagreat", sum := "5dac6d65662f98a62b4c7634ba5ccbbcda24c2c704055fcfcd85d0d2eac78c63", func := "sightbench/sightbenchlaw08.JudgeChanges", spec := "judgeChanges", inPlace := ["math/bits.Add64"], unfollowed := true, recurses := true, apart := false }
def JudgeChangesSaid : Prop := judgeChangesRow.holds Tryz.pinned (OpenSpec.ofChange judgeChangesSpec)

/-- ITS FALSE NEIGHBOUR: 'it returns false'. Refute it at one input. -/
def judgeChangesWrong : ChangeSpec := { name := "judgeChanges", fn := fun _ => fun
  | [d1, d2, d3, d4, d5, d6, d7] => { results := [.lit (.bool false)], args := [d1, d2, d3, d4, d5, d6, d7] }
  | _ => none }
def JudgeChangesWrongFalsely : Prop := judgeChangesRow.holds Tryz.pinned (OpenSpec.ofChange judgeChangesWrong)

/-- 'sightbenchlaw08.JudgeTight': WHATEVER THE INPUT: true; the input reads as it did. -/
def judgeTightSpec : ChangeSpec := { name := "judgeTight", fn := fun _ => fun
  | [d1, d2, d3] => { results := [.lit (.bool true)], args := [d1, d2, d3] }
  | _ => none }
def judgeTightRow : OpenClaim := { program := "ytbfigbpjoaccdaagreat", sum := "5dac6d65662f98a62b4c7634ba5ccbbcda24c2c704055fcfcd85d0d2eac78c63", func := "sightbench/sightbenchlaw08.JudgeTight", spec := "judgeTight", inPlace := ["math/bits.Add64"], unfollowed := true, recurses := true, apart := false }
def JudgeTightSaid : Prop := judgeTightRow.holds Tryz.pinned (OpenSpec.ofChange judgeTightSpec)

/-- ITS FALSE NEIGHBOUR: 'it returns false'. Refute it at one input. -/
def judgeTightWrong : ChangeSpec := { name := "judgeTight", fn := fun _ => fun
  | [d1, d2, d3] => { results := [.lit (.bool false)], args := [d1, d2, d3] }
  | _ => none }
def JudgeTightWrongFalsely : Prop := judgeTightRow.holds Tryz.pinned (OpenSpec.ofChange judgeTightWrong)

/-- 'sightbenchlaw08.JudgeCheapest': WHATEVER THE INPUT: true; the input reads as it did. -/
def judgeCheapestSpec : ChangeSpec := { name := "judgeCheapest", fn := fun _ => fun
  | [d1, d2, d3, d4, d5] => { results := [.lit (.bool true)], args := [d1, d2, d3, d4, d5] }
  | _ => none }
def judgeCheapestRow : OpenClaim := { program := "ytbfigbpjoaccdaagreat", sum := "5dac6d65662f98a62b4c7634ba5ccbbcda24c2c704055fcfcd85d0d2eac78c63", func := "sightbench/sightbenchlaw08.JudgeCheapest", spec := "judgeCheapest", inPlace := ["math/bits.Add64"], unfollowed := true, recurses := true, apart := false }
def JudgeCheapestSaid : Prop := judgeCheapestRow.holds Tryz.pinned (OpenSpec.ofChange judgeCheapestSpec)

/-- ITS FALSE NEIGHBOUR: 'it returns false'. Refute it at one input. -/
def judgeCheapestWrong : ChangeSpec := { name := "judgeCheapest", fn := fun _ => fun
  | [d1, d2, d3, d4, d5] => { results := [.lit (.bool false)], args := [d1, d2, d3, d4, d5] }
  | _ => none }
def JudgeCheapestWrongFalsely : Prop := judgeCheapestRow.holds Tryz.pinned (OpenSpec.ofChange judgeCheapestWrong)

/-- 'sightbenchlaw08.JudgeFair': WHATEVER THE INPUT: true; the input reads as it did. -/
def judgeFairSpec : ChangeSpec := { name := "judgeFair", fn := fun _ => fun
  | [d] => { results := [.lit (.bool true)], args := [d] }
  | _ => none }
def judgeFairRow : OpenClaim := { program := "ytbfigbpjoaccdaagreat", sum := "5dac6d65662f98a62b4c7634ba5ccbbcda24c2c704055fcfcd85d0d2eac78c63", func := "sightbench/sightbenchlaw08.JudgeFair", spec := "judgeFair", inPlace := ["math/bits.Add64"], unfollowed := true, recurses := true, apart := false }
def JudgeFairSaid : Prop := judgeFairRow.holds Tryz.pinned (OpenSpec.ofChange judgeFairSpec)

/-- ITS FALSE NEIGHBOUR: 'it returns false'. Refute it at one input. -/
def judgeFairWrong : ChangeSpec := { name := "judgeFair", fn := fun _ => fun
  | [d] => { results := [.lit (.bool false)], args := [d] }
  | _ => none }
def JudgeFairWrongFalsely : Prop := judgeFairRow.holds Tryz.pinned (OpenSpec.ofChange judgeFairWrong)

/-- 'sightbenchlaw08.JudgeParts': WHATEVER THE INPUT: true; the input reads as it did. -/
def judgePartsSpec : ChangeSpec := { name := "judgeParts", fn := fun _ => fun
  | [d1, d2, d3] => { results := [.lit (.bool true)], args := [d1, d2, d3] }
  | _ => none }
def judgePartsRow : OpenClaim := { program := "ytbfigbpjoaccdaagreat", sum := "5dac6d65662f98a62b4c7634ba5ccbbcda24c2c704055fcfcd85d0d2eac78c63", func := "sightbench/sightbenchlaw08.JudgeParts", spec := "judgeParts", inPlace := ["math/bits.Add64"], unfollowed := true, recurses := true, apart := false }
def JudgePartsSaid : Prop := judgePartsRow.holds Tryz.pinned (OpenSpec.ofChange judgePartsSpec)

/-- ITS FALSE NEIGHBOUR: 'it returns false'. Refute it at one input. -/
def judgePartsWrong : ChangeSpec := { name := "judgeParts", fn := fun _ => fun
  | [d1, d2, d3] => { results := [.lit (.bool false)], args := [d1, d2, d3] }
  | _ => none }
def JudgePartsWrongFalsely : Prop := judgePartsRow.holds Tryz.pinned (OpenSpec.ofChange judgePartsWrong)

/-- 'sightbenchlaw08.JudgeFalls': WHATEVER THE INPUT: true; the input reads as it did. -/
def judgeFallsSpec : ChangeSpec := { name := "judgeFalls", fn := fun _ => fun
  | [d1, d2, d3, d4, d5] => { results := [.lit (.bool true)], args := [d1, d2, d3, d4, d5] }
  | _ => none }
def judgeFallsRow : OpenClaim := { program := "ytbfigbpjoaccdaagreat", sum := "5dac6d65662f98a62b4c7634ba5ccbbcda24c2c704055fcfcd85d0d2eac78c63", func := "sightbench/sightbenchlaw08.JudgeFalls", spec := "judgeFalls", inPlace := ["math/bits.Add64"], unfollowed := true, recurses := true, apart := false }
def JudgeFallsSaid : Prop := judgeFallsRow.holds Tryz.pinned (OpenSpec.ofChange judgeFallsSpec)

/-- ITS FALSE NEIGHBOUR: 'it returns false'. Refute it at one input. -/
def judgeFallsWrong : ChangeSpec := { name := "judgeFalls", fn := fun _ => fun
  | [d1, d2, d3, d4, d5] => { results := [.lit (.bool false)], args := [d1, d2, d3, d4, d5] }
  | _ => none }
def JudgeFallsWrongFalsely : Prop := judgeFallsRow.holds Tryz.pinned (OpenSpec.ofChange judgeFallsWrong)

/-- 'sightbenchlaw08.JudgeAlarms': WHATEVER THE INPUT: true; the input reads as it did. -/
def judgeAlarmsSpec : ChangeSpec := { name := "judgeAlarms", fn := fun _ => fun
  | [d1, d2, d3] => { results := [.lit (.bool true)], args := [d1, d2, d3] }
  | _ => none }
def judgeAlarmsRow : OpenClaim := { program := "ytbfigbpjoaccdaagreat", sum := "5dac6d65662f98a62b4c7634ba5ccbbcda24c2c704055fcfcd85d0d2eac78c63", func := "sightbench/sightbenchlaw08.JudgeAlarms", spec := "judgeAlarms", inPlace := ["math/bits.Add64", "math/bits.Sub64"], unfollowed := true, recurses := true, apart := false }
def JudgeAlarmsSaid : Prop := judgeAlarmsRow.holds Tryz.pinned (OpenSpec.ofChange judgeAlarmsSpec)

/-- ITS FALSE NEIGHBOUR: 'it returns false'. Refute it at one input. -/
def judgeAlarmsWrong : ChangeSpec := { name := "judgeAlarms", fn := fun _ => fun
  | [d1, d2, d3] => { results := [.lit (.bool false)], args := [d1, d2, d3] }
  | _ => none }
def JudgeAlarmsWrongFalsely : Prop := judgeAlarmsRow.holds Tryz.pinned (OpenSpec.ofChange judgeAlarmsWrong)

/-- 'sightbenchlaw08.JudgeExamples': WHATEVER THE INPUT: true; the input reads as it did. -/
def judgeExamplesSpec : ChangeSpec := { name := "judgeExamples", fn := fun _ => fun
  | [] => { results := [.lit (.bool true)], args := [] }
  | _ => none }
def judgeExamplesRow : OpenClaim := { program := "ytbfigbpjoaccdaagreat", sum := "5dac6d65662f98a62b4c7634ba5ccbbcda24c2c704055fcfcd85d0d2eac78c63", func := "sightbench/sightbenchlaw08.JudgeExamples", spec := "judgeExamples", inPlace := ["math/bits.Add64"], unfollowed := true, recurses := true, apart := false }
def JudgeExamplesSaid : Prop := judgeExamplesRow.holds Tryz.pinned (OpenSpec.ofChange judgeExamplesSpec)

/-- ITS FALSE NEIGHBOUR: 'it returns false'. Refute it at one input. -/
def judgeExamplesWrong : ChangeSpec := { name := "judgeExamples", fn := fun _ => fun
  | [] => { results := [.lit (.bool false)], args := [] }
  | _ => none }
def JudgeExamplesWrongFalsely : Prop := judgeExamplesRow.holds Tryz.pinned (OpenSpec.ofChange judgeExamplesWrong)

/-- 'sightbenchlaw08.JudgeMore': WHATEVER THE INPUT: true; the input reads as it did. -/
def judgeMoreSpec : ChangeSpec := { name := "judgeMore", fn := fun _ => fun
  | [d1, d2, d3, d4, d5, d6, d7] => { results := [.lit (.bool true)], args := [d1, d2, d3, d4, d5, d6, d7] }
  | _ => none }
def judgeMoreRow : OpenClaim := { program := "ytbfigbpjoaccdaagreat", sum := "5dac6d65662f98a62b4c7634ba5ccbbcda24c2c704055fcfcd85d0d2eac78c63", func := "sightbench/sightbenchlaw08.JudgeMore", spec := "judgeMore", inPlace := ["math/bits.Add64"], unfollowed := true, recurses := true, apart := false }
def JudgeMoreSaid : Prop := judgeMoreRow.holds Tryz.pinned (OpenSpec.ofChange judgeMoreSpec)

/-- ITS FALSE NEIGHBOUR: 'it returns false'. Refute it at one input. -/
def judgeMoreWrong : ChangeSpec := { name := "judgeMore", fn := fun _ => fun
  | [d1, d2, d3, d4, d5, d6, d7] => { results := [.lit (.bool false)], args := [d1, d2, d3, d4, d5, d6, d7] }
  | _ => none }
def JudgeMoreWrongFalsely : Prop := judgeMoreRow.holds Tryz.pinned (OpenSpec.ofChange judgeMoreWrong)

/-- 'sightbenchlaw08.JudgeLinear': WHATEVER THE INPUT: true; the input reads as it did. -/
def judgeLinearSpec : ChangeSpec := { name := "judgeLinear", fn := fun _ => fun
  | [d1, d2] => { results := [.lit (.bool true)], args := [d1, d2] }
  | _ => none }
def judgeLinearRow : OpenClaim := { program := "ytbfigbpjoaccdaagreat", sum := "5dac6d65662f98a62b4c7634ba5ccbbcda24c2c704055fcfcd85d0d2eac78c63", func := "sightbench/sightbenchlaw08.JudgeLinear", spec := "judgeLinear", inPlace := ["math/bits.Add64"], unfollowed := true, recurses := true, apart := false }
def JudgeLinearSaid : Prop := judgeLinearRow.holds Tryz.pinned (OpenSpec.ofChange judgeLinearSpec)

/-- ITS FALSE NEIGHBOUR: 'it returns false'. Refute it at one input. -/
def judgeLinearWrong : ChangeSpec := { name := "judgeLinear", fn := fun _ => fun
  | [d1, d2] => { results := [.lit (.bool false)], args := [d1, d2] }
  | _ => none }
def JudgeLinearWrongFalsely : Prop := judgeLinearRow.holds Tryz.pinned (OpenSpec.ofChange judgeLinearWrong)

/-- 'sightbenchlaw08.JudgeCounted': WHATEVER THE INPUT: true; the input reads as it did. -/
def judgeCountedSpec : ChangeSpec := { name := "judgeCounted", fn := fun _ => fun
  | [d1, d2, d3, d4] => { results := [.lit (.bool true)], args := [d1, d2, d3, d4] }
  | _ => none }
def judgeCountedRow : OpenClaim := { program := "ytbfigbpjoaccdaagreat", sum := "5dac6d65662f98a62b4c7634ba5ccbbcda24c2c704055fcfcd85d0d2eac78c63", func := "sightbench/sightbenchlaw08.JudgeCounted", spec := "judgeCounted", inPlace := ["math/bits.Add64"], unfollowed := true, recurses := true, apart := false }
def JudgeCountedSaid : Prop := judgeCountedRow.holds Tryz.pinned (OpenSpec.ofChange judgeCountedSpec)

/-- ITS FALSE NEIGHBOUR: 'it returns false'. Refute it at one input. -/
def judgeCountedWrong : ChangeSpec := { name := "judgeCounted", fn := fun _ => fun
  | [d1, d2, d3, d4] => { results := [.lit (.bool false)], args := [d1, d2, d3, d4] }
  | _ => none }
def JudgeCountedWrongFalsely : Prop := judgeCountedRow.holds Tryz.pinned (OpenSpec.ofChange judgeCountedWrong)

/-- 'sightbenchlaw08.JudgeCalm': WHATEVER THE INPUT: true; the input reads as it did. -/
def judgeCalmSpec : ChangeSpec := { name := "judgeCalm", fn := fun _ => fun
  | [d1, d2, d3] => { results := [.lit (.bool true)], args := [d1, d2, d3] }
  | _ => none }
def judgeCalmRow : OpenClaim := { program := "ytbfigbpjoaccdaagreat", sum := "5dac6d65662f98a62b4c7634ba5ccbbcda24c2c704055fcfcd85d0d2eac78c63", func := "sightbench/sightbenchlaw08.JudgeCalm", spec := "judgeCalm", inPlace := ["math/bits.Add64", "math/bits.Sub64"], unfollowed := true, recurses := true, apart := false }
def JudgeCalmSaid : Prop := judgeCalmRow.holds Tryz.pinned (OpenSpec.ofChange judgeCalmSpec)

/-- ITS FALSE NEIGHBOUR: 'it returns false'. Refute it at one input. -/
def judgeCalmWrong : ChangeSpec := { name := "judgeCalm", fn := fun _ => fun
  | [d1, d2, d3] => { results := [.lit (.bool false)], args := [d1, d2, d3] }
  | _ => none }
def JudgeCalmWrongFalsely : Prop := judgeCalmRow.holds Tryz.pinned (OpenSpec.ofChange judgeCalmWrong)

/- THE SECOND FORM. 'bulk': how many values and letters a reading holds, each counted each time it is reached (what is shared counts as often as it is met; a slice's spare places count too). A statement '..UptoSaid' is the law's where the arguments, and the package variables that the reading takes, are together of bulk at most 1048576: NARROWER than '..Said'. Prove '..Said' where nothing that the law and all that it calls make is longer than what came in: it says more and counts as full. Else prove '..UptoSaid'. A law counts once. -/
mutual
def uptoBulk {H : Type} : DataW H → Nat
  | .lit (.string bytes) => bytes.length + 1
  | .lit _ => 1
  | .nil => 1
  | .ptr d => uptoBulk d + 1
  | .slice elems spare => uptoBulkAll elems + uptoBulkAll spare + 1
  | .agg parts => uptoBulkAll parts + 1
  | .iface _ d => uptoBulk d + 1
  | .map entries => uptoBulkEntries entries + 1
  | .held _ => 1
def uptoBulkAll {H : Type} : List (DataW H) → Nat
  | [] => 0
  | d :: r => uptoBulk d + uptoBulkAll r
def uptoBulkEntries {H : Type} : List (Lit × DataW H) → Nat
  | [] => 0
  | x :: r => uptoBulkEntry x + uptoBulkEntries r
def uptoBulkEntry {H : Type} : Lit × DataW H → Nat
  | (.string bytes, d) => bytes.length + uptoBulk d + 1
  | (_, d) => uptoBulk d + 1
 end
def uptoSmall : (H : Type) → List (DataW H) → Bool := fun _ ds => decide (uptoBulkAll ds ≤ 1048576)
def OpenSpec.upto (s : _root_.Go.ChangeSpec) : _root_.Go.OpenSpec := { _root_.Go.OpenSpec.ofChange s with cond := some uptoSmall }

/-- 'sightbenchlaw08.JudgeHolds', WHERE WHAT IT READS IS OF BULK AT MOST 1048576: true; the input reads as it did. -/
def judgeHoldsUptoRow : OpenClaim := { program := "ytbfigbpjoaccdaagreat", sum := "5dac6d65662f98a62b4c7634ba5ccbbcda24c2c704055fcfcd85d0d2eac78c63", func := "sightbench/sightbenchlaw08.JudgeHolds", spec := "judgeHolds", inPlace := ["math/bits.Add64"], unfollowed := true, recurses := true, apart := false, narrowed := true }
def JudgeHoldsUptoSaid : Prop := judgeHoldsUptoRow.holds Tryz.pinned (OpenSpec.upto judgeHoldsSpec)

/-- 'sightbenchlaw08.JudgeChanges', WHERE WHAT IT READS IS OF BULK AT MOST 1048576: true; the input reads as it did. -/
def judgeChangesUptoRow : OpenClaim := { program := "ytbfigbpjoaccdaagreat", sum := "5dac6d65662f98a62b4c7634ba5ccbbcda24c2c704055fcfcd85d0d2eac78c63", func := "sightbench/sightbenchlaw08.JudgeChanges", spec := "judgeChanges", inPlace := ["math/bits.Add64"], unfollowed := true, recurses := true, apart := false, narrowed := true }
def JudgeChangesUptoSaid : Prop := judgeChangesUptoRow.holds Tryz.pinned (OpenSpec.upto judgeChangesSpec)

/-- 'sightbenchlaw08.JudgeTight', WHERE WHAT IT READS IS OF BULK AT MOST 1048576: true; the input reads as it did. -/
def judgeTightUptoRow : OpenClaim := { program := "ytbfigbpjoaccdaagreat", sum := "5dac6d65662f98a62b4c7634ba5ccbbcda24c2c704055fcfcd85d0d2eac78c63", func := "sightbench/sightbenchlaw08.JudgeTight", spec := "judgeTight", inPlace := ["math/bits.Add64"], unfollowed := true, recurses := true, apart := false, narrowed := true }
def JudgeTightUptoSaid : Prop := judgeTightUptoRow.holds Tryz.pinned (OpenSpec.upto judgeTightSpec)

/-- 'sightbenchlaw08.JudgeCheapest', WHERE WHAT IT READS IS OF BULK AT MOST 1048576: true; the input reads as it did. -/
def judgeCheapestUptoRow : OpenClaim := { program := "ytbfigbpjoaccdaagreat", sum := "5dac6d65662f98a62b4c7634ba5ccbbcda24c2c704055fcfcd85d0d2eac78c63", func := "sightbench/sightbenchlaw08.JudgeCheapest", spec := "judgeCheapest", inPlace := ["math/bits.Add64"], unfollowed := true, recurses := true, apart := false, narrowed := true }
def JudgeCheapestUptoSaid : Prop := judgeCheapestUptoRow.holds Tryz.pinned (OpenSpec.upto judgeCheapestSpec)

/-- 'sightbenchlaw08.JudgeFair', WHERE WHAT IT READS IS OF BULK AT MOST 1048576: true; the input reads as it did. -/
def judgeFairUptoRow : OpenClaim := { program := "ytbfigbpjoaccdaagreat", sum := "5dac6d65662f98a62b4c7634ba5ccbbcda24c2c704055fcfcd85d0d2eac78c63", func := "sightbench/sightbenchlaw08.JudgeFair", spec := "judgeFair", inPlace := ["math/bits.Add64"], unfollowed := true, recurses := true, apart := false, narrowed := true }
def JudgeFairUptoSaid : Prop := judgeFairUptoRow.holds Tryz.pinned (OpenSpec.upto judgeFairSpec)

/-- 'sightbenchlaw08.JudgeParts', WHERE WHAT IT READS IS OF BULK AT MOST 1048576: true; the input reads as it did. -/
def judgePartsUptoRow : OpenClaim := { program := "ytbfigbpjoaccdaagreat", sum := "5dac6d65662f98a62b4c7634ba5ccbbcda24c2c704055fcfcd85d0d2eac78c63", func := "sightbench/sightbenchlaw08.JudgeParts", spec := "judgeParts", inPlace := ["math/bits.Add64"], unfollowed := true, recurses := true, apart := false, narrowed := true }
def JudgePartsUptoSaid : Prop := judgePartsUptoRow.holds Tryz.pinned (OpenSpec.upto judgePartsSpec)

/-- 'sightbenchlaw08.JudgeFalls', WHERE WHAT IT READS IS OF BULK AT MOST 1048576: true; the input reads as it did. -/
def judgeFallsUptoRow : OpenClaim := { program := "ytbfigbpjoaccdaagreat", sum := "5dac6d65662f98a62b4c7634ba5ccbbcda24c2c704055fcfcd85d0d2eac78c63", func := "sightbench/sightbenchlaw08.JudgeFalls", spec := "judgeFalls", inPlace := ["math/bits.Add64"], unfollowed := true, recurses := true, apart := false, narrowed := true }
def JudgeFallsUptoSaid : Prop := judgeFallsUptoRow.holds Tryz.pinned (OpenSpec.upto judgeFallsSpec)

/-- 'sightbenchlaw08.JudgeAlarms', WHERE WHAT IT READS IS OF BULK AT MOST 1048576: true; the input reads as it did. -/
def judgeAlarmsUptoRow : OpenClaim := { program := "ytbfigbpjoaccdaagreat", sum := "5dac6d65662f98a62b4c7634ba5ccbbcda24c2c704055fcfcd85d0d2eac78c63", func := "sightbench/sightbenchlaw08.JudgeAlarms", spec := "judgeAlarms", inPlace := ["math/bits.Add64", "math/bits.Sub64"], unfollowed := true, recurses := true, apart := false, narrowed := true }
def JudgeAlarmsUptoSaid : Prop := judgeAlarmsUptoRow.holds Tryz.pinned (OpenSpec.upto judgeAlarmsSpec)

/-- 'sightbenchlaw08.JudgeExamples', WHERE WHAT IT READS IS OF BULK AT MOST 1048576: true; the input reads as it did. -/
def judgeExamplesUptoRow : OpenClaim := { program := "ytbfigbpjoaccdaagreat", sum := "5dac6d65662f98a62b4c7634ba5ccbbcda24c2c704055fcfcd85d0d2eac78c63", func := "sightbench/sightbenchlaw08.JudgeExamples", spec := "judgeExamples", inPlace := ["math/bits.Add64"], unfollowed := true, recurses := true, apart := false, narrowed := true }
def JudgeExamplesUptoSaid : Prop := judgeExamplesUptoRow.holds Tryz.pinned (OpenSpec.upto judgeExamplesSpec)

/-- 'sightbenchlaw08.JudgeMore', WHERE WHAT IT READS IS OF BULK AT MOST 1048576: true; the input reads as it did. -/
def judgeMoreUptoRow : OpenClaim := { program := "ytbfigbpjoaccdaagreat", sum := "5dac6d65662f98a62b4c7634ba5ccbbcda24c2c704055fcfcd85d0d2eac78c63", func := "sightbench/sightbenchlaw08.JudgeMore", spec := "judgeMore", inPlace := ["math/bits.Add64"], unfollowed := true, recurses := true, apart := false, narrowed := true }
def JudgeMoreUptoSaid : Prop := judgeMoreUptoRow.holds Tryz.pinned (OpenSpec.upto judgeMoreSpec)

/-- 'sightbenchlaw08.JudgeLinear', WHERE WHAT IT READS IS OF BULK AT MOST 1048576: true; the input reads as it did. -/
def judgeLinearUptoRow : OpenClaim := { program := "ytbfigbpjoaccdaagreat", sum := "5dac6d65662f98a62b4c7634ba5ccbbcda24c2c704055fcfcd85d0d2eac78c63", func := "sightbench/sightbenchlaw08.JudgeLinear", spec := "judgeLinear", inPlace := ["math/bits.Add64"], unfollowed := true, recurses := true, apart := false, narrowed := true }
def JudgeLinearUptoSaid : Prop := judgeLinearUptoRow.holds Tryz.pinned (OpenSpec.upto judgeLinearSpec)

/-- 'sightbenchlaw08.JudgeCounted', WHERE WHAT IT READS IS OF BULK AT MOST 1048576: true; the input reads as it did. -/
def judgeCountedUptoRow : OpenClaim := { program := "ytbfigbpjoaccdaagreat", sum := "5dac6d65662f98a62b4c7634ba5ccbbcda24c2c704055fcfcd85d0d2eac78c63", func := "sightbench/sightbenchlaw08.JudgeCounted", spec := "judgeCounted", inPlace := ["math/bits.Add64"], unfollowed := true, recurses := true, apart := false, narrowed := true }
def JudgeCountedUptoSaid : Prop := judgeCountedUptoRow.holds Tryz.pinned (OpenSpec.upto judgeCountedSpec)

/-- 'sightbenchlaw08.JudgeCalm', WHERE WHAT IT READS IS OF BULK AT MOST 1048576: true; the input reads as it did. -/
def judgeCalmUptoRow : OpenClaim := { program := "ytbfigbpjoaccdaagreat", sum := "5dac6d65662f98a62b4c7634ba5ccbbcda24c2c704055fcfcd85d0d2eac78c63", func := "sightbench/sightbenchlaw08.JudgeCalm", spec := "judgeCalm", inPlace := ["math/bits.Add64", "math/bits.Sub64"], unfollowed := true, recurses := true, apart := false, narrowed := true }
def JudgeCalmUptoSaid : Prop := judgeCalmUptoRow.holds Tryz.pinned (OpenSpec.upto judgeCalmSpec)

end Rows
end Go.Proofs.YtbfigbpjoaccdaaGreat
