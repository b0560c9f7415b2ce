/- The sums of the rows and of the columns are one number, that of all; a rectangle by the integral: plain. -/
import Derived.Test.YtjglfeonoiljlaaSums
import Derived.Test.YtjglfeonoiljlaaLab
namespace Go.Proofs.Ytjglfeonoiljlaa
set_option linter.unusedVariables false
set_option linter.unusedSimpArgs false

/-- The sum of the first k numbers of a list. -/
def sumL1 (L : List Int) (k : Nat) : Int := sumTo (fun i => px L i) k
theorem sumL1_succ (L : List Int) (k : Nat) : sumL1 L (k + 1) = sumL1 L k + px L k := rfl

variable {pw ph : Nat} (g : Nat → Nat → Int)
theorem sums_rows (k : Nat) (hk : k ≤ ph) : sumL1 (sumsR pw ph g) k = gridTo g pw k := by
  induction k with
  | zero => rfl
  | succ k ih =>
    rw [sumL1_succ, ih (by omega)]
    unfold sumsR
    rw [px_map_range _ (by omega)]
    unfold rect
    rw [gridTo_x0, gridTo_x0]
    omega
theorem sums_cols (k : Nat) (hk : k ≤ pw) : sumL1 (sumsC pw ph g) k = gridTo g k ph := by
  induction k with
  | zero => exact (gridTo_x0 g ph).symm
  | succ k ih =>
    rw [sumL1_succ, ih (by omega)]
    unfold sumsC
    rw [px_map_range _ (by omega)]
    unfold rect
    rw [gridTo_y0, gridTo_y0]
    omega
theorem integ_px {x y : Nat} (hx : x ≤ pw) (hy : y ≤ ph) : px (integAll pw ph g) ((y * (pw + 1) + x : Nat) : Int) = gridTo g x y := by
  rw [px_nat, integAll_at pw ph g hx hy]; rfl
theorem integ_last : px (integAll pw ph g) (((pw + 1) * (ph + 1) - 1 : Nat) : Int) = gridTo g pw ph := by
  rw [← integ_px g (Nat.le_refl pw) (Nat.le_refl ph)]
  have : (pw + 1) * (ph + 1) - 1 = ph * (pw + 1) + pw := by
    rw [Nat.mul_add, Nat.mul_comm (pw + 1) ph]; omega
  rw [this]
theorem rect_integ {x0 y0 x1 y1 : Nat} (hx0 : x0 ≤ pw) (hx1 : x1 ≤ pw) (hy0 : y0 ≤ ph) (hy1 : y1 ≤ ph) :
    rect g x0 y0 x1 y1 = px (integAll pw ph g) ((y1 * (pw + 1) + x1 : Nat) : Int) + px (integAll pw ph g) ((y0 * (pw + 1) + x0 : Nat) : Int) - px (integAll pw ph g) ((y0 * (pw + 1) + x1 : Nat) : Int) - px (integAll pw ph g) ((y1 * (pw + 1) + x0 : Nat) : Int) := by
  rw [integ_px g hx1 hy1, integ_px g hx0 hy0, integ_px g hx1 hy0, integ_px g hx0 hy1]
  unfold rect
  omega

end Go.Proofs.Ytjglfeonoiljlaa
