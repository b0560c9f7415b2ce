/- Sums of values of rectangles, in plain numbers: the list of all sums above and to the left, as it grows. No program in sight. -/
import Derived.Test.YtbfigbpjoaccdaaBase
namespace Go.Proofs.Ytbfigbpjoaccdaa
set_option linter.unusedVariables false
set_option linter.unusedSimpArgs false

def sumTo (f : Nat → Int) : Nat → Int
  | 0 => 0
  | k + 1 => sumTo f k + f k

/-- The sum of a line's first x values; that of the values above and to the left; that of a rectangle. -/
def rowTo (g : Nat → Nat → Int) (x y : Nat) : Int := sumTo (fun u => g u y) x
def gridTo (g : Nat → Nat → Int) (x y : Nat) : Int := sumTo (fun v => rowTo g x v) y
def rect (g : Nat → Nat → Int) (x0 y0 x1 y1 : Nat) : Int := gridTo g x1 y1 - gridTo g x1 y0 - gridTo g x0 y1 + gridTo g x0 y0

theorem rowTo_succ (g : Nat → Nat → Int) (x y : Nat) : rowTo g (x + 1) y = rowTo g x y + g x y := rfl
theorem gridTo_succ (g : Nat → Nat → Int) (x y : Nat) : gridTo g x (y + 1) = gridTo g x y + rowTo g x y := rfl
theorem rect_succ (g : Nat → Nat → Int) (x0 y0 x1 y : Nat) : rect g x0 y0 x1 (y + 1) = rect g x0 y0 x1 y + (rowTo g x1 y - rowTo g x0 y) := by
  unfold rect
  rw [gridTo_succ, gridTo_succ]
  omega
theorem rect_zero (g : Nat → Nat → Int) (x0 y0 x1 : Nat) : rect g x0 y0 x1 y0 = 0 := by unfold rect; omega

theorem sumTo_zero {f : Nat → Int} (h : ∀ i, f i = 0) (k : Nat) : sumTo f k = 0 := by
  induction k with
  | zero => rfl
  | succ k ih => simp [sumTo, ih, h]
theorem gridTo_x0 (g : Nat → Nat → Int) (y : Nat) : gridTo g 0 y = 0 := sumTo_zero (fun _ => rfl) y
theorem gridTo_y0 (g : Nat → Nat → Int) (x : Nat) : gridTo g x 0 = 0 := rfl
theorem rect_grid (g : Nat → Nat → Int) (x y : Nat) : rect g 0 0 x y = gridTo g x y := by
  unfold rect
  rw [gridTo_x0, gridTo_x0, gridTo_y0]
  omega
theorem gridTo_next (g : Nat → Nat → Int) (x y : Nat) : g x y + gridTo g x (y + 1) + gridTo g (x + 1) y - gridTo g x y = gridTo g (x + 1) (y + 1) := by
  rw [gridTo_succ, gridTo_succ, rowTo_succ]
  omega

theorem sumTo_bd {f : Nat → Int} {B : Int} {k : Nat} (h : ∀ i, i < k → -B ≤ f i ∧ f i ≤ B) : -(B * k) ≤ sumTo f k ∧ sumTo f k ≤ B * k := by
  induction k with
  | zero => simp [sumTo]
  | succ k ih =>
    have h1 := ih (fun i hi => h i (by omega))
    have h2 := h k (by omega)
    have e : B * ((k + 1 : Nat) : Int) = B * k + B := by rw [Int.natCast_succ, Int.mul_add, Int.mul_one]
    rw [e]
    simp only [sumTo]
    omega
theorem mul_le16 {B : Int} (hB : 0 ≤ B) {x : Nat} (hx : x ≤ 16) : B * x ≤ B * 16 := Int.mul_le_mul_of_nonneg_left (by omega) hB
theorem rowTo_bd {g : Nat → Nat → Int} (h : ∀ u v, -2147483648 ≤ g u v ∧ g u v ≤ 2147483648) {x : Nat} (hx : x ≤ 16) (y : Nat) : -34359738368 ≤ rowTo g x y ∧ rowTo g x y ≤ 34359738368 := by
  have h1 := sumTo_bd (f := fun u => g u y) (k := x) (fun i _ => h i y)
  unfold rowTo
  omega
theorem gridTo_bd {g : Nat → Nat → Int} (h : ∀ u v, -2147483648 ≤ g u v ∧ g u v ≤ 2147483648) {x y : Nat} (hx : x ≤ 16) (hy : y ≤ 16) : -549755813888 ≤ gridTo g x y ∧ gridTo g x y ≤ 549755813888 := by
  have h1 := sumTo_bd (f := fun v => rowTo g x v) (k := y) (fun i _ => rowTo_bd h hx i)
  unfold gridTo
  omega

/-! ### The list of all sums -/

/-- The sums above and to the left; those whose place has not come up are 0. -/
def integ (pw ph : Nat) (g : Nat → Nat → Int) (k : Nat) : List Int :=
  (List.range ((pw + 1) * (ph + 1))).map fun j => if (j / (pw + 1) - 1) * pw + (j % (pw + 1) - 1) < k then gridTo g (j % (pw + 1)) (j / (pw + 1)) else 0

def integAll (pw ph : Nat) (g : Nat → Nat → Int) : List Int := (List.range ((pw + 1) * (ph + 1))).map fun j => gridTo g (j % (pw + 1)) (j / (pw + 1))

theorem integ_length (pw ph : Nat) (g : Nat → Nat → Int) (k : Nat) : (integ pw ph g k).length = (pw + 1) * (ph + 1) := by simp [integ]
theorem integAll_length (pw ph : Nat) (g : Nat → Nat → Int) : (integAll pw ph g).length = (pw + 1) * (ph + 1) := by simp [integAll]

theorem idx_mod {w x : Nat} (y : Nat) (hx : x < w) : (y * w + x) % w = x := by rw [Nat.mul_comm, Nat.mul_add_mod, Nat.mod_eq_of_lt hx]
theorem idx_div {w x : Nat} (y : Nat) (hx : x < w) : (y * w + x) / w = y := by rw [Nat.mul_comm, Nat.mul_add_div (by omega), Nat.div_eq_of_lt hx]; omega
theorem idx_bound {w h x y : Nat} (hx : x < w) (hy : y < h) : y * w + x < w * h := by
  have := Nat.mul_le_mul_right w (show y + 1 ≤ h by omega)
  rw [Nat.add_mul, Nat.mul_comm h w] at this
  omega

theorem integ_zero (pw ph : Nat) (g : Nat → Nat → Int) : integ pw ph g 0 = List.replicate ((pw + 1) * (ph + 1)) 0 := by
  unfold integ
  simp [List.map_const']

theorem integAll_at (pw ph : Nat) (g : Nat → Nat → Int) {x y : Nat} (hx : x ≤ pw) (hy : y ≤ ph) : (integAll pw ph g)[y * (pw + 1) + x]? = some (gridTo g x y) := by
  unfold integAll
  rw [List.getElem?_map, List.getElem?_range (idx_bound (by omega) (by omega)), Option.map_some, idx_mod y (by omega), idx_div y (by omega)]

theorem integ_at (pw ph : Nat) (g : Nat → Nat → Int) (k : Nat) {x y : Nat} (hx : x ≤ pw) (hy : y ≤ ph) (h : x = 0 ∨ y = 0 ∨ (y - 1) * pw + (x - 1) < k) : (integ pw ph g k)[y * (pw + 1) + x]? = some (gridTo g x y) := by
  unfold integ
  rw [List.getElem?_map, List.getElem?_range (idx_bound (by omega) (by omega)), Option.map_some, idx_mod y (by omega), idx_div y (by omega)]
  rcases h with rfl | rfl | h
  · rw [gridTo_x0]; simp
  · rw [gridTo_y0]; simp
  · rw [if_pos h]

theorem integ_all (pw ph : Nat) (g : Nat → Nat → Int) (hpw : 1 ≤ pw) (hph : 1 ≤ ph) : integ pw ph g (pw * ph) = integAll pw ph g := by
  unfold integ integAll
  refine List.map_congr_left fun j hj => ?_
  have hj' := List.mem_range.1 hj
  have h1 : j % (pw + 1) < pw + 1 := Nat.mod_lt _ (by omega)
  have h2 : j / (pw + 1) < ph + 1 := Nat.div_lt_of_lt_mul hj'
  rw [if_pos (idx_bound (by omega) (by omega))]

theorem integ_set (pw ph : Nat) (g : Nat → Nat → Int) (k : Nat) (hk : k < pw * ph) :
    (integ pw ph g k).set ((k / pw + 1) * (pw + 1) + (k % pw + 1)) (gridTo g (k % pw + 1) (k / pw + 1)) = integ pw ph g (k + 1) := by
  have hp0 : 0 < pw := Nat.pos_of_ne_zero (by rintro rfl; simp at hk)
  have hx : k % pw < pw := Nat.mod_lt _ hp0
  have hy : k / pw < ph := Nat.div_lt_of_lt_mul hk
  have hkk : k / pw * pw + k % pw = k := by rw [Nat.mul_comm]; exact Nat.div_add_mod k pw
  have hN := idx_bound (w := pw + 1) (h := ph + 1) (x := k % pw + 1) (y := k / pw + 1) (by omega) (by omega)
  refine List.ext_getElem? fun j => ?_
  rw [List.getElem?_set]
  by_cases hj : (k / pw + 1) * (pw + 1) + (k % pw + 1) = j
  · subst hj
    rw [if_pos rfl, integ_length, if_pos hN, integ_at pw ph g (k + 1) (by omega) (by omega) (.inr (.inr (by simp only [Nat.add_sub_cancel]; omega)))]
  · rw [if_neg hj]
    by_cases hjN : j < (pw + 1) * (ph + 1)
    · unfold integ
      rw [List.getElem?_map, List.getElem?_map, List.getElem?_range hjN, Option.map_some, Option.map_some]
      congr 1
      have h1 : j % (pw + 1) < pw + 1 := Nat.mod_lt _ (by omega)
      have hjj : j / (pw + 1) * (pw + 1) + j % (pw + 1) = j := by rw [Nat.mul_comm]; exact Nat.div_add_mod j (pw + 1)
      generalize j % (pw + 1) = x at *
      generalize j / (pw + 1) = y at *
      rcases Nat.eq_zero_or_pos x with rfl | hx0
      · rw [gridTo_x0]; simp
      rcases Nat.eq_zero_or_pos y with rfl | hy0
      · rw [gridTo_y0]; simp
      have hne : ¬ (y - 1) * pw + (x - 1) = k := by
        intro he
        have e1 := idx_mod (w := pw) (x := x - 1) (y - 1) (by omega)
        have e2 := idx_div (w := pw) (x := x - 1) (y - 1) (by omega)
        rw [he] at e1 e2
        apply hj
        rw [e1, e2, Nat.sub_add_cancel hx0, Nat.sub_add_cancel hy0, hjj]
      by_cases hlt : (y - 1) * pw + (x - 1) < k
      · rw [if_pos hlt, if_pos (by omega)]
      · rw [if_neg hlt, if_neg (by omega)]
    · rw [List.getElem?_eq_none (by rw [integ_length]; omega), List.getElem?_eq_none (by rw [integ_length]; omega)]

/-- The list of all sums, as far as it is laid line by line. -/
theorem integAll_take (pw ph : Nat) (g : Nat → Nat → Int) {x y : Nat} (hx : x ≤ pw) (hy : y ≤ ph) :
    (integAll pw ph g).take (y * (pw + 1) + x) ++ [gridTo g x y] = (integAll pw ph g).take (y * (pw + 1) + x + 1) := by
  have h := integAll_at pw ph g hx hy
  rw [List.take_add_one, h]
  rfl

def sumsR (pw ph : Nat) (g : Nat → Nat → Int) : List Int := (List.range ph).map fun y => rect g 0 y pw (y + 1)
def sumsC (pw ph : Nat) (g : Nat → Nat → Int) : List Int := (List.range pw).map fun x => rect g x 0 (x + 1) ph

/-- A list laid entry by entry, over zeros. -/
def layTo (f : Nat → Int) (n k : Nat) : List Int := (List.range n).map fun i => if i < k then f i else 0
theorem layTo_length (f : Nat → Int) (n k : Nat) : (layTo f n k).length = n := by simp [layTo]
theorem layTo_zero (f : Nat → Int) (n : Nat) : layTo f n 0 = List.replicate n 0 := by simp [layTo, List.map_const']
theorem layTo_all (f : Nat → Int) (n : Nat) : layTo f n n = (List.range n).map f := List.map_congr_left fun i hi => if_pos (List.mem_range.1 hi)
theorem layTo_set (f : Nat → Int) {n k : Nat} (hk : k < n) : (layTo f n k).set k (f k) = layTo f n (k + 1) := by
  refine List.ext_getElem? fun j => ?_
  rw [List.getElem?_set]
  by_cases hj : k = j
  · subst hj
    rw [if_pos rfl, layTo_length, if_pos hk]
    simp [layTo, hk]
  · rw [if_neg hj]
    by_cases hjn : j < n
    · simp only [layTo, List.getElem?_map, List.getElem?_range hjn, Option.map_some]
      congr 1
      by_cases h : j < k
      · rw [if_pos h, if_pos (by omega)]
      · rw [if_neg h, if_neg (by omega)]
    · rw [List.getElem?_eq_none (by rw [layTo_length]; omega), List.getElem?_eq_none (by rw [layTo_length]; omega)]

end Go.Proofs.Ytbfigbpjoaccdaa
