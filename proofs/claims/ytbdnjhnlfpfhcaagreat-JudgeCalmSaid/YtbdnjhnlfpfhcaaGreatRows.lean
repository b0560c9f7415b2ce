/-
  No cell of these rows narrows 'for every input' (looked for: loops, veiled, ifaces, maps, wideKeys, modest, calm, conditions, laid).
  DERIVED. THE GIVEN ROWS OF THIS SEAT. 2 by the template 'for every input the law returns true; each argument reads behind the call as it read before'; 0 by the template 'total and deterministic' (their statements: YtbdnjhnlfpfhcaaGreatTotals.lean).
  GIVEN WITH THE SEED: the statements are not yours to turn. If you find one false, say at which input.
  Laid BY PROGRAM, IN A SANDBOX (cutbox-rows.mjs): the forced cells as the released guide's own fill.sh prints them over the translation f30162079d91ae18… (all of the seat's roots in one cut). By AI agents, Wed Nov 11 2026. No macro, syntax, notation, axiom, sorry.
-/
import Derived.Test.YtbdnjhnlfpfhcaaGreatChecked
import GoSem.Claim
import GoSem.ClaimJoined
import GoSem.ClaimMapViews
import Derived.JoinedTies
import Derived.KernelRfl
namespace Go.Proofs.YtbdnjhnlfpfhcaaGreat
/- THE CELL 'sum', in the pinned program and in every row, IS THE sha256 OF THE DUMP (.gsa) THAT YtbdnjhnlfpfhcaaGreatProg.lean LOADS. Nothing in Lean hashes anything: it is a label: what it is worth is what the hold of that sum in a sandbox is worth. -/
noncomputable def Tryz.pinned : Pinned := { name := "ytbdnjhnlfpfhcaagreat", sum := "f30162079d91ae18344645155c15d00eba1223ccfacfc24fe093fe32dc77597c", checked := Tryz.checked }
namespace Rows
def none {H : Type} : Left H := { results := [], args := [] }

/-- 'sightbenchlaw08.JudgeCounted': WHATEVER THE INPUT: true; the input reads as it did. -/
def judgeCountedSpec : ChangeSpec := { name := "judgeCounted", fn := fun _ => fun
  | [d1, d2, d3, d4] => { results := [.lit (.bool true)], args := [d1, d2, d3, d4] }
  | _ => none }
def judgeCountedRow : OpenClaim := { program := "ytbdnjhnlfpfhcaagreat", sum := "f30162079d91ae18344645155c15d00eba1223ccfacfc24fe093fe32dc77597c", func := "sightbench/sightbenchlaw08.JudgeCounted", spec := "judgeCounted", inPlace := ["math/bits.Add64"], unfollowed := true, recurses := true, apart := false }
def JudgeCountedSaid : Prop := judgeCountedRow.holds Tryz.pinned (OpenSpec.ofChange judgeCountedSpec)

/-- ITS FALSE NEIGHBOUR: 'it returns false'. Refute it at one input. -/
def judgeCountedWrong : ChangeSpec := { name := "judgeCounted", fn := fun _ => fun
  | [d1, d2, d3, d4] => { results := [.lit (.bool false)], args := [d1, d2, d3, d4] }
  | _ => none }
def JudgeCountedWrongFalsely : Prop := judgeCountedRow.holds Tryz.pinned (OpenSpec.ofChange judgeCountedWrong)

/-- 'sightbenchlaw08.JudgeCalm': WHATEVER THE INPUT: true; the input reads as it did. -/
def judgeCalmSpec : ChangeSpec := { name := "judgeCalm", fn := fun _ => fun
  | [d1, d2, d3] => { results := [.lit (.bool true)], args := [d1, d2, d3] }
  | _ => none }
def judgeCalmRow : OpenClaim := { program := "ytbdnjhnlfpfhcaagreat", sum := "f30162079d91ae18344645155c15d00eba1223ccfacfc24fe093fe32dc77597c", func := "sightbench/sightbenchlaw08.JudgeCalm", spec := "judgeCalm", inPlace := ["math/bits.Add64", "math/bits.Sub64"], unfollowed := true, recurses := true, apart := false }
def JudgeCalmSaid : Prop := judgeCalmRow.holds Tryz.pinned (OpenSpec.ofChange judgeCalmSpec)

/-- ITS FALSE NEIGHBOUR: 'it returns false'. Refute it at one input. -/
def judgeCalmWrong : ChangeSpec := { name := "judgeCalm", fn := fun _ => fun
  | [d1, d2, d3] => { results := [.lit (.bool false)], args := [d1, d2, d3] }
  | _ => none }
def JudgeCalmWrongFalsely : Prop := judgeCalmRow.holds Tryz.pinned (OpenSpec.ofChange judgeCalmWrong)

/- THE SECOND FORM. 'bulk': how many values and letters a reading holds, each counted each time it is reached (what is shared counts as often as it is met; a slice's spare places count too). A statement '..UptoSaid' is the law's where the arguments, and the package variables that the reading takes, are together of bulk at most 1048576: NARROWER than '..Said'. Prove '..Said' where nothing that the law and all that it calls make is longer than what came in: it says more and counts as full. Else prove '..UptoSaid'. A law counts once. -/
mutual
def uptoBulk {H : Type} : DataW H → Nat
  | .lit (.string bytes) => bytes.length + 1
  | .lit _ => 1
  | .nil => 1
  | .ptr d => uptoBulk d + 1
  | .slice elems spare => uptoBulkAll elems + uptoBulkAll spare + 1
  | .agg parts => uptoBulkAll parts + 1
  | .iface _ d => uptoBulk d + 1
  | .map entries => uptoBulkEntries entries + 1
  | .held _ => 1
def uptoBulkAll {H : Type} : List (DataW H) → Nat
  | [] => 0
  | d :: r => uptoBulk d + uptoBulkAll r
def uptoBulkEntries {H : Type} : List (Lit × DataW H) → Nat
  | [] => 0
  | x :: r => uptoBulkEntry x + uptoBulkEntries r
def uptoBulkEntry {H : Type} : Lit × DataW H → Nat
  | (.string bytes, d) => bytes.length + uptoBulk d + 1
  | (_, d) => uptoBulk d + 1
 end
def uptoSmall : (H : Type) → List (DataW H) → Bool := fun _ ds => decide (uptoBulkAll ds ≤ 1048576)
def OpenSpec.upto (s : _root_.Go.ChangeSpec) : _root_.Go.OpenSpec := { _root_.Go.OpenSpec.ofChange s with cond := some uptoSmall }

/-- 'sightbenchlaw08.JudgeCounted', WHERE WHAT IT READS IS OF BULK AT MOST 1048576: true; the input reads as it did. -/
def judgeCountedUptoRow : OpenClaim := { program := "ytbdnjhnlfpfhcaagreat", sum := "f30162079d91ae18344645155c15d00eba1223ccfacfc24fe093fe32dc77597c", func := "sightbench/sightbenchlaw08.JudgeCounted", spec := "judgeCounted", inPlace := ["math/bits.Add64"], unfollowed := true, recurses := true, apart := false, narrowed := true }
def JudgeCountedUptoSaid : Prop := judgeCountedUptoRow.holds Tryz.pinned (OpenSpec.upto judgeCountedSpec)

/-- 'sightbenchlaw08.JudgeCalm', WHERE WHAT IT READS IS OF BULK AT MOST 1048576: true; the input reads as it did. -/
def judgeCalmUptoRow : OpenClaim := { program := "ytbdnjhnlfpfhcaagreat", sum := "f30162079d91ae18344645155c15d00eba1223ccfacfc24fe093fe32dc77597c", func := "sightbench/sightbenchlaw08.JudgeCalm", spec := "judgeCalm", inPlace := ["math/bits.Add64", "math/bits.Sub64"], unfollowed := true, recurses := true, apart := false, narrowed := true }
def JudgeCalmUptoSaid : Prop := judgeCalmUptoRow.holds Tryz.pinned (OpenSpec.upto judgeCalmSpec)

end Rows
end Go.Proofs.YtbdnjhnlfpfhcaaGreat
