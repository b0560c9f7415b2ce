/- The contracts of the specification's shapes, Dilate and Erode. -/
import Derived.Test.YtbfigbpjoaccdaaImgT
namespace Go.Proofs.Ytbfigbpjoaccdaa
open Go Go.RowKit Go.Shelf
set_option linter.unusedVariables false
set_option linter.unusedSimpArgs false

theorem mor_img {mx : Bool} {xs : List Int} (h : allIn (-2147483648) 2147483648 xs = true) (iw ih : Int) (sw sh : Nat) (bits : List Bool) (x y : Int) : -2147483648 ≤ morG mx iw ih xs sw sh bits x y ∧ morG mx iw ih xs sw sh bits x y ≤ 2147483648 := mor_bd (fun _ => px_bd h _) _

end Go.Proofs.Ytbfigbpjoaccdaa
