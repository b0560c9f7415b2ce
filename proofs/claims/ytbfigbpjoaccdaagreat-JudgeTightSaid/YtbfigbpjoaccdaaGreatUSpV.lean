/- Valid changes and changed values of the specification. -/
import Derived.Test.YtbfigbpjoaccdaaGreatQC8
import Derived.Test.YtbfigbpjoaccdaaGreatQC7
import Derived.Test.YtbfigbpjoaccdaaGreatQC5
namespace Go.Proofs.YtbfigbpjoaccdaaGreat
open Go Go.RowKit Go.Shelf
set_option linter.unusedVariables false
set_option linter.unusedSimpArgs false

theorem px_byte {xs : List Int} (h : allIn 0 255 xs = true) (q : Int) : 0 ≤ px xs q ∧ px xs q ≤ 255 := by
  unfold px
  by_cases hk : q.toNat < xs.length
  · exact allIn_getD h hk
  · rw [List.getElem?_eq_none (by omega)]; simp
theorem bey_byte {xs : List Int} (h : allIn 0 255 xs = true) (iw ih x y : Int) : 0 ≤ beyF 2 iw ih xs x y ∧ beyF 2 iw ih xs x y ≤ 255 := by rw [beyF_2]; exact px_byte h _
end Go.Proofs.YtbfigbpjoaccdaaGreat
