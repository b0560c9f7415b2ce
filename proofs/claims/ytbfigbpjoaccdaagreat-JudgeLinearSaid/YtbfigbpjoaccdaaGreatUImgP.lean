/- The contracts of Rows, Cols, Integral and Box: the program's and the specification's. -/
import Derived.Test.YtbfigbpjoaccdaaGreatQC4
namespace Go.Proofs.YtbfigbpjoaccdaaGreat
open Go Go.RowKit Go.Shelf
set_option linter.unusedVariables false
set_option linter.unusedSimpArgs false

theorem boxF_rect (pw ph : Nat) (g : Nat → Nat → Int) {x0 y0 x1 y1 : Int} (hx0 : 0 ≤ x0) (hx1 : x0 ≤ x1) (hx2 : x1 ≤ pw) (hy0 : 0 ≤ y0) (hy1 : y0 ≤ y1) (hy2 : y1 ≤ ph) : boxF pw (integAll pw ph g) x0 y0 x1 y1 = rect g x0.toNat y0.toNat x1.toNat y1.toNat := by
  obtain ⟨X0, rfl⟩ : ∃ k : Nat, x0 = (k : Int) := ⟨x0.toNat, by omega⟩
  obtain ⟨X1, rfl⟩ : ∃ k : Nat, x1 = (k : Int) := ⟨x1.toNat, by omega⟩
  obtain ⟨Y0, rfl⟩ : ∃ k : Nat, y0 = (k : Int) := ⟨y0.toNat, by omega⟩
  obtain ⟨Y1, rfl⟩ : ∃ k : Nat, y1 = (k : Int) := ⟨y1.toNat, by omega⟩
  have e : ∀ x y : Nat, x ≤ pw → y ≤ ph → px (integAll pw ph g) ((y : Int) * ((pw : Int) + 1) + (x : Int)) = gridTo g x y := fun x y hx hy =>
    px_some (integAll_at pw ph g hx hy) (by
      have : (y : Int) * ((pw : Int) + 1) + (x : Int) = ((y * (pw + 1) + x : Nat) : Int) := by simp
      rw [this, Int.toNat_natCast])
  unfold boxF rect
  rw [e X1 Y1 (by omega) (by omega), e X1 Y0 (by omega) (by omega), e X0 Y1 (by omega) (by omega), e X0 Y0 (by omega) (by omega)]
  simp only [Int.toNat_natCast]
  try omega

theorem integAll_bd {pw ph : Nat} {g : Nat → Nat → Int} (h : ∀ u v, -2147483648 ≤ g u v ∧ g u v ≤ 2147483648) (hw : pw ≤ 15 + 1) (hh : ph ≤ 15 + 1) : allIn (-549755813888) 549755813888 (integAll pw ph g) = true := by
  unfold allIn integAll
  rw [List.all_eq_true]
  intro x hx
  obtain ⟨j, hj, rfl⟩ := List.mem_map.1 hx
  have h1 : j % (pw + 1) < pw + 1 := Nat.mod_lt _ (by omega)
  have h2 : j / (pw + 1) < ph + 1 := Nat.div_lt_of_lt_mul (List.mem_range.1 hj)
  have := gridTo_bd h (x := j % (pw + 1)) (y := j / (pw + 1)) (by omega) (by omega)
  simpa using this

end Go.Proofs.YtbfigbpjoaccdaaGreat
