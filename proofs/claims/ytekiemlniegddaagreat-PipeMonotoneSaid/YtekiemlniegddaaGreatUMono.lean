/- Point operations keep or turn the order of images: plain. -/
import Derived.Test.YtekiemlniegddaaGreatUTurnLaws
namespace Go.Proofs.YtekiemlniegddaaGreat
open Go
set_option linter.unusedVariables false
set_option linter.unusedSimpArgs false

variable {pw ph n : Nat} {p : PointN} {xs ys : List Int}
theorem px_pt (hp : p.ok = true) (L : List Int) {i : Nat} (hi : i < pw * ph) : px (ptL pw ph p L) i = pointF p (px L i) := by
 unfold ptL
 rw [px_img (fun i hi => pointF_rng hp _) hi]
 unfold pointG
 rw [cXY]
theorem pointF_range (hp : p.ok = true) (v : Int) : p.lo ≤ pointF p v ∧ pointF p v ≤ p.hi := by
 simp only [PointN.ok, Bool.and_eq_true, inR_true, decide_eq_true_eq] at hp
 unfold pointF clamp
 omega
theorem pointF_up (hp : p.ok = true) (hm : 0 ≤ p.mul) {u v : Int} (h : u ≤ v) : pointF p u ≤ pointF p v := by
 simp only [PointN.ok, Bool.and_eq_true, inR_true, decide_eq_true_eq] at hp
 have h1 : p.mul * u ≤ p.mul * v := Int.mul_le_mul_of_nonneg_left h hm
 have h2 : (p.mul * u + p.add) / p.div ≤ (p.mul * v + p.add) / p.div := Int.ediv_le_ediv (by omega) (by omega)
 unfold pointF clamp
 omega
end Go.Proofs.YtekiemlniegddaaGreat
