/- The walk of the law JudgeTight: it returns true, and nothing that lay has turned. -/
import Derived.Test.YtbfigbpjoaccdaaGreatUChX
import Derived.Test.YtbfigbpjoaccdaaGreatUSpI
namespace Go.Proofs.YtbfigbpjoaccdaaGreat
open Go Go.RowKit Go.Shelf
set_option linter.unusedVariables false
set_option linter.unusedSimpArgs false

theorem spr_len2 (m : ImN) (C : ChgN) : (sprS m C).lo.length ≤ 256 ∧ (sprS m C).hi.length ≤ 256 := by
  unfold sprS
  split
  · split
    · rename_i h _
      simp only [camB, Bool.and_eq_true] at h
      obtain ⟨⟨i1, i2⟩, ⟨i3, i4⟩, hlen, hall⟩ := vld_true h.1
      have := Nat.mul_le_mul (show m.w.toNat ≤ 16 by omega) (show m.h.toNat ≤ 16 by omega)
      simp only [loL, hiL, List.length_map, List.length_range]
      omega
    · simp [noSp]
  · simp [noSp]
theorem sprS_ok {m : ImN} {C : ChgN} (h1 : camB m = true) (h2 : chgB C = true) : sprS m C = ⟨m.w, m.h, loL m C, hiL m C, 0⟩ := by unfold sprS; rw [if_pos h1, if_pos h2]
end Go.Proofs.YtbfigbpjoaccdaaGreat
