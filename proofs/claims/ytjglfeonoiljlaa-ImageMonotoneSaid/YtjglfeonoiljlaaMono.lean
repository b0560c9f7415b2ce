/- Point operations keep or turn the order of images: plain. -/
import Derived.Test.YtjglfeonoiljlaaTurnLaws
namespace Go.Proofs.Ytjglfeonoiljlaa
open Go
set_option linter.unusedVariables false
set_option linter.unusedSimpArgs false

variable {pw ph n : Nat} {p : PointN} {xs ys : List Int}
theorem px_pt (hp : p.ok = true) (L : List Int) {i : Nat} (hi : i < pw * ph) : px (ptL pw ph p L) i = pointF p (px L i) := by
  unfold ptL
  rw [px_img (fun i hi => pointF_rng hp _) hi]
  unfold pointG
  rw [cXY]
theorem pointF_range (hp : p.ok = true) (v : Int) : p.lo ≤ pointF p v ∧ pointF p v ≤ p.hi := by
  simp only [PointN.ok, Bool.and_eq_true, inR_true, decide_eq_true_eq] at hp
  unfold pointF clamp
  omega
theorem pointF_up (hp : p.ok = true) (hm : 0 ≤ p.mul) {u v : Int} (h : u ≤ v) : pointF p u ≤ pointF p v := by
  simp only [PointN.ok, Bool.and_eq_true, inR_true, decide_eq_true_eq] at hp
  have h1 : p.mul * u ≤ p.mul * v := Int.mul_le_mul_of_nonneg_left h hm
  have h2 : (p.mul * u + p.add) / p.div ≤ (p.mul * v + p.add) / p.div := Int.ediv_le_ediv (by omega) (by omega)
  unfold pointF clamp
  omega
theorem pointF_down (hp : p.ok = true) (hm : p.mul ≤ 0) {u v : Int} (h : u ≤ v) : pointF p v ≤ pointF p u := by
  simp only [PointN.ok, Bool.and_eq_true, inR_true, decide_eq_true_eq] at hp
  have h1 : p.mul * v ≤ p.mul * u := Int.mul_le_mul_of_nonpos_left hm h
  have h2 : (p.mul * v + p.add) / p.div ≤ (p.mul * u + p.add) / p.div := Int.ediv_le_ediv (by omega) (by omega)
  unfold pointF clamp
  omega
theorem mono_up (hp : p.ok = true) (hm : 0 ≤ p.mul) (hx : rng xs) (hy : rng ys) : belowB (pw * ph) (ptL pw ph p (zipI pw ph xs ys 3)) (ptL pw ph p xs) = true :=
  belowB_iff.2 fun i hi => by
    rw [px_pt hp _ hi, px_pt hp _ hi, zipI_px (.inl rfl) hx hy hi]
    exact pointF_up hp hm (by show min _ _ ≤ _; omega)
theorem mono_down (hp : p.ok = true) (hm : p.mul ≤ 0) (hx : rng xs) (hy : rng ys) : belowB (pw * ph) (ptL pw ph p xs) (ptL pw ph p (zipI pw ph xs ys 3)) = true :=
  belowB_iff.2 fun i hi => by
    rw [px_pt hp _ hi, px_pt hp _ hi, zipI_px (.inl rfl) hx hy hi]
    exact pointF_down hp hm (by show min _ _ ≤ _; omega)

theorem zipL_ok {pw ph : Nat} {xs ys : List Int} {how : Int} (hx : vld pw ph xs = true) (hy : vld pw ph ys = true) (h1 : 1 ≤ how) (h2 : how ≤ 6) : zipS pw ph xs pw ph ys how = { w := pw, h := ph, px := zipI pw ph xs ys how, err := 0 } := by
  unfold zipS
  rw [if_pos hx, if_pos hy, if_pos (by simp), if_pos (by simp; omega)]
  rfl

end Go.Proofs.Ytjglfeonoiljlaa
