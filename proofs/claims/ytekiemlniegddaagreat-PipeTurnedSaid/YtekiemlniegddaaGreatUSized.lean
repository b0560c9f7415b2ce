/- The law package's 'sized' and 'below'. -/
import Derived.Test.YtekiemlniegddaaGreatQH2
import Derived.Test.YtekiemlniegddaaGreatULab
namespace Go.Proofs.YtekiemlniegddaaGreat
open Go Go.RowKit Go.Shelf
set_option linter.unusedVariables false
set_option linter.unusedSimpArgs false

/-- Nowhere greater, on the first n pixels. -/
def belowB (n : Nat) (xs ys : List Int) : Bool := (List.range n).all fun i => decide (px xs i ≤ px ys i)
theorem belowB_iff {n : Nat} {xs ys : List Int} : belowB n xs ys = true ↔ ∀ i, i < n → px xs i ≤ px ys i := by
 simp [belowB, List.all_eq_true]

end Go.Proofs.YtekiemlniegddaaGreat
