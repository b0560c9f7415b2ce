/- The contract of box: the sum of a rectangle off the list of all sums. -/
import Derived.Test.YtbfigbpjoaccdaaImgM
namespace Go.Proofs.Ytbfigbpjoaccdaa
open Go Go.RowKit Go.Shelf
set_option linter.unusedVariables false
set_option linter.unusedSimpArgs false

/-- What box computes off a list. -/
def boxF (iw : Int) (l : List Int) (x0 y0 x1 y1 : Int) : Int := px l (y1 * (iw + 1) + x1) - px l (y0 * (iw + 1) + x1) - px l (y1 * (iw + 1) + x0) + px l (y0 * (iw + 1) + x0)

theorem px_bdB {l : List Int} {B : Int} (hB : 0 ≤ B) (h : allIn (-B) B l = true) (i : Int) : -B ≤ px l i ∧ px l i ≤ B := by
  unfold px
  rcases Nat.lt_or_ge i.toNat l.length with h1 | h1
  · rw [List.getElem?_eq_getElem h1]
    exact allIn_mem h (List.getElem_mem h1)
  · rw [List.getElem?_eq_none h1]
    simp; omega

end Go.Proofs.Ytbfigbpjoaccdaa
