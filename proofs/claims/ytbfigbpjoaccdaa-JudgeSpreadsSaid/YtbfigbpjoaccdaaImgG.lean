/- The contract of the specification's Warp. -/
import Derived.Test.YtbfigbpjoaccdaaImgF
namespace Go.Proofs.Ytbfigbpjoaccdaa
open Go Go.RowKit Go.Shelf
set_option linter.unusedVariables false
set_option linter.unusedSimpArgs false

theorem warpG_bd {iw ih : Int} {xs : List Int} {t : WarpN} {fill : Int} (h : allIn (-2147483648) 2147483648 xs = true) (hf : inR fill (-2147483648) 2147483648 = true) (x y : Int) : -2147483648 ≤ warpG iw ih xs t fill x y ∧ warpG iw ih xs t fill x y ≤ 2147483648 := by
  unfold warpG
  split
  · exact px_bd h _
  · exact inR_true.1 hf


end Go.Proofs.Ytbfigbpjoaccdaa
