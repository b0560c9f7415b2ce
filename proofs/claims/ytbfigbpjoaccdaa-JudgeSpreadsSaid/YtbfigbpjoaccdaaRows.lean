/-
  No cell of these rows narrows 'for every input' (looked for: loops, veiled, ifaces, maps, wideKeys, modest, calm, conditions, laid).
  DERIVED. THE GIVEN ROWS OF THIS SEAT. 3 by the template 'for every input the law returns true; each argument reads behind the call as it read before'; 0 by the template 'total and deterministic' (their statements: YtbfigbpjoaccdaaTotals.lean).
  GIVEN WITH THE SEED: the statements are not yours to turn. If you find one false, say at which input.
  Laid BY PROGRAM, IN A SANDBOX (cutbox-rows.mjs): the forced cells as the released guide's own fill.sh prints them over the translation 0b6f6b332ff5c343… (all of the seat's roots in one cut). By AI agents, Wed Nov 11 2026. No macro, syntax, notation, axiom, sorry.
-/
import Derived.Test.YtbfigbpjoaccdaaChecked
import GoSem.Claim
import GoSem.ClaimJoined
import GoSem.ClaimMapViews
import Derived.JoinedTies
import Derived.KernelRfl
namespace Go.Proofs.Ytbfigbpjoaccdaa
/- THE CELL 'sum', in the pinned program and in every row, IS THE sha256 OF THE DUMP (.gsa) THAT YtbfigbpjoaccdaaProg.lean LOADS. Nothing in Lean hashes anything: it is a label: what it is worth is what the hold of that sum in a sandbox is worth. -/
noncomputable def Try.pinned : Pinned := { name := "ytbfigbpjoaccdaa", sum := "0b6f6b332ff5c343a1efaa2c2a53bd5bc2046f69a07f09d47a6c502fbcb6b0e3", checked := Try.checked }
namespace Rows
def none {H : Type} : Left H := { results := [], args := [] }

/-- 'sightbenchlaw08.JudgeScores': WHATEVER THE INPUT: true; the input reads as it did. -/
def judgeScoresSpec : ChangeSpec := { name := "judgeScores", fn := fun _ => fun
  | [d1, d2] => { results := [.lit (.bool true)], args := [d1, d2] }
  | _ => none }
def judgeScoresRow : OpenClaim := { program := "ytbfigbpjoaccdaa", sum := "0b6f6b332ff5c343a1efaa2c2a53bd5bc2046f69a07f09d47a6c502fbcb6b0e3", func := "sightbench/sightbenchlaw08.JudgeScores", spec := "judgeScores", unfollowed := true, recurses := true, apart := false }
def JudgeScoresSaid : Prop := judgeScoresRow.holds Try.pinned (OpenSpec.ofChange judgeScoresSpec)

/-- ITS FALSE NEIGHBOUR: 'it returns false'. Refute it at one input. -/
def judgeScoresWrong : ChangeSpec := { name := "judgeScores", fn := fun _ => fun
  | [d1, d2] => { results := [.lit (.bool false)], args := [d1, d2] }
  | _ => none }
def JudgeScoresWrongFalsely : Prop := judgeScoresRow.holds Try.pinned (OpenSpec.ofChange judgeScoresWrong)

/-- 'sightbenchlaw08.JudgeSpreads': WHATEVER THE INPUT: true; the input reads as it did. -/
def judgeSpreadsSpec : ChangeSpec := { name := "judgeSpreads", fn := fun _ => fun
  | [d1, d2] => { results := [.lit (.bool true)], args := [d1, d2] }
  | _ => none }
def judgeSpreadsRow : OpenClaim := { program := "ytbfigbpjoaccdaa", sum := "0b6f6b332ff5c343a1efaa2c2a53bd5bc2046f69a07f09d47a6c502fbcb6b0e3", func := "sightbench/sightbenchlaw08.JudgeSpreads", spec := "judgeSpreads", unfollowed := true, recurses := true, apart := false }
def JudgeSpreadsSaid : Prop := judgeSpreadsRow.holds Try.pinned (OpenSpec.ofChange judgeSpreadsSpec)

/-- ITS FALSE NEIGHBOUR: 'it returns false'. Refute it at one input. -/
def judgeSpreadsWrong : ChangeSpec := { name := "judgeSpreads", fn := fun _ => fun
  | [d1, d2] => { results := [.lit (.bool false)], args := [d1, d2] }
  | _ => none }
def JudgeSpreadsWrongFalsely : Prop := judgeSpreadsRow.holds Try.pinned (OpenSpec.ofChange judgeSpreadsWrong)

/-- 'sightbenchlaw08.JudgeCertifies': WHATEVER THE INPUT: true; the input reads as it did. -/
def judgeCertifiesSpec : ChangeSpec := { name := "judgeCertifies", fn := fun _ => fun
  | [d1, d2, d3, d4] => { results := [.lit (.bool true)], args := [d1, d2, d3, d4] }
  | _ => none }
def judgeCertifiesRow : OpenClaim := { program := "ytbfigbpjoaccdaa", sum := "0b6f6b332ff5c343a1efaa2c2a53bd5bc2046f69a07f09d47a6c502fbcb6b0e3", func := "sightbench/sightbenchlaw08.JudgeCertifies", spec := "judgeCertifies", unfollowed := true, recurses := true, apart := false }
def JudgeCertifiesSaid : Prop := judgeCertifiesRow.holds Try.pinned (OpenSpec.ofChange judgeCertifiesSpec)

/-- ITS FALSE NEIGHBOUR: 'it returns false'. Refute it at one input. -/
def judgeCertifiesWrong : ChangeSpec := { name := "judgeCertifies", fn := fun _ => fun
  | [d1, d2, d3, d4] => { results := [.lit (.bool false)], args := [d1, d2, d3, d4] }
  | _ => none }
def JudgeCertifiesWrongFalsely : Prop := judgeCertifiesRow.holds Try.pinned (OpenSpec.ofChange judgeCertifiesWrong)

/- THE SECOND FORM. 'bulk': how many values and letters a reading holds, each counted each time it is reached (what is shared counts as often as it is met; a slice's spare places count too). A statement '..UptoSaid' is the law's where the arguments, and the package variables that the reading takes, are together of bulk at most 1048576: NARROWER than '..Said'. Prove '..Said' where nothing that the law and all that it calls make is longer than what came in: it says more and counts as full. Else prove '..UptoSaid'. A law counts once. -/
mutual
def uptoBulk {H : Type} : DataW H → Nat
  | .lit (.string bytes) => bytes.length + 1
  | .lit _ => 1
  | .nil => 1
  | .ptr d => uptoBulk d + 1
  | .slice elems spare => uptoBulkAll elems + uptoBulkAll spare + 1
  | .agg parts => uptoBulkAll parts + 1
  | .iface _ d => uptoBulk d + 1
  | .map entries => uptoBulkEntries entries + 1
  | .held _ => 1
def uptoBulkAll {H : Type} : List (DataW H) → Nat
  | [] => 0
  | d :: r => uptoBulk d + uptoBulkAll r
def uptoBulkEntries {H : Type} : List (Lit × DataW H) → Nat
  | [] => 0
  | x :: r => uptoBulkEntry x + uptoBulkEntries r
def uptoBulkEntry {H : Type} : Lit × DataW H → Nat
  | (.string bytes, d) => bytes.length + uptoBulk d + 1
  | (_, d) => uptoBulk d + 1
 end
def uptoSmall : (H : Type) → List (DataW H) → Bool := fun _ ds => decide (uptoBulkAll ds ≤ 1048576)
def OpenSpec.upto (s : _root_.Go.ChangeSpec) : _root_.Go.OpenSpec := { _root_.Go.OpenSpec.ofChange s with cond := some uptoSmall }

/-- 'sightbenchlaw08.JudgeScores', WHERE WHAT IT READS IS OF BULK AT MOST 1048576: true; the input reads as it did. -/
def judgeScoresUptoRow : OpenClaim := { program := "ytbfigbpjoaccdaa", sum := "0b6f6b332ff5c343a1efaa2c2a53bd5bc2046f69a07f09d47a6c502fbcb6b0e3", func := "sightbench/sightbenchlaw08.JudgeScores", spec := "judgeScores", unfollowed := true, recurses := true, apart := false, narrowed := true }
def JudgeScoresUptoSaid : Prop := judgeScoresUptoRow.holds Try.pinned (OpenSpec.upto judgeScoresSpec)

/-- 'sightbenchlaw08.JudgeSpreads', WHERE WHAT IT READS IS OF BULK AT MOST 1048576: true; the input reads as it did. -/
def judgeSpreadsUptoRow : OpenClaim := { program := "ytbfigbpjoaccdaa", sum := "0b6f6b332ff5c343a1efaa2c2a53bd5bc2046f69a07f09d47a6c502fbcb6b0e3", func := "sightbench/sightbenchlaw08.JudgeSpreads", spec := "judgeSpreads", unfollowed := true, recurses := true, apart := false, narrowed := true }
def JudgeSpreadsUptoSaid : Prop := judgeSpreadsUptoRow.holds Try.pinned (OpenSpec.upto judgeSpreadsSpec)

/-- 'sightbenchlaw08.JudgeCertifies', WHERE WHAT IT READS IS OF BULK AT MOST 1048576: true; the input reads as it did. -/
def judgeCertifiesUptoRow : OpenClaim := { program := "ytbfigbpjoaccdaa", sum := "0b6f6b332ff5c343a1efaa2c2a53bd5bc2046f69a07f09d47a6c502fbcb6b0e3", func := "sightbench/sightbenchlaw08.JudgeCertifies", spec := "judgeCertifies", unfollowed := true, recurses := true, apart := false, narrowed := true }
def JudgeCertifiesUptoSaid : Prop := judgeCertifiesUptoRow.holds Try.pinned (OpenSpec.upto judgeCertifiesSpec)

end Rows
end Go.Proofs.Ytbfigbpjoaccdaa
