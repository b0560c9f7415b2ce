/- Turns and flips of images, and point operations through them: plain. -/
import Derived.Test.YtekiemlniegddaaGreatUMorLaws
import Derived.Test.YtekiemlniegddaaGreatQH2
namespace Go.Proofs.YtekiemlniegddaaGreat
open Go
set_option linter.unusedVariables false
set_option linter.unusedSimpArgs false

def turnL (pw ph : Nat) (L : List Int) : List Int := img ph pw (turnG pw ph L)
def ptL (pw ph : Nat) (p : PointN) (L : List Int) : List Int := img pw ph (pointG pw L p)
/-- The pixel at a place. -/
def pxy (pw : Nat) (L : List Int) (x y : Nat) : Int := px L ((y * pw + x : Nat) : Int)

variable {pw ph : Nat} {L : List Int}
theorem turnL_len : (turnL pw ph L).length = pw * ph := by unfold turnL; rw [img_length, Nat.mul_comm]
theorem ptL_len {p : PointN} : (ptL pw ph p L).length = pw * ph := img_length _ _ _
theorem ptL_rng {p : PointN} : rng (ptL pw ph p L) := rng_img _ _ _

theorem cX_at {x : Nat} (y : Nat) (hx : x < pw) : cX pw (y * pw + x) = (x : Int) := by unfold cX; rw [idx_mod y hx]
theorem cY_at {x : Nat} (y : Nat) (hx : x < pw) : cY pw (y * pw + x) = (y : Int) := by unfold cY; rw [idx_div y hx]

theorem pxy_turn (hL : rng L) {x y : Nat} (hx : x < ph) (hy : y < pw) : pxy ph (turnL pw ph L) x y = pxy pw L y (ph - 1 - x) := by
 unfold pxy turnL
 rw [px_img (fun i hi => px_bd hL _) (idx_bound hx hy), cX_at y hx, cY_at y hx]
 unfold turnG
 rw [Int.natCast_add, Int.natCast_mul, show ((ph - 1 - x : Nat) : Int) = (ph : Int) - 1 - x by omega]
theorem pointF_rng {p : PointN} (hp : p.ok = true) (v : Int) : -2147483648 ≤ pointF p v ∧ pointF p v ≤ 2147483648 := by
 simp only [PointN.ok, Bool.and_eq_true, inR_true, decide_eq_true_eq] at hp
 unfold pointF clamp
 omega
theorem pxy_pt {p : PointN} (hp : p.ok = true) {x y : Nat} (hx : x < pw) (hy : y < ph) : pxy pw (ptL pw ph p L) x y = pointF p (pxy pw L x y) := by
 unfold pxy ptL
 rw [px_img (fun i hi => pointF_rng hp _) (idx_bound hx hy), cX_at y hx, cY_at y hx]
 unfold pointG
 rw [Int.natCast_add, Int.natCast_mul]
theorem pxy_ext {A B : List Int} (hA : A.length = pw * ph) (hB : B.length = pw * ph) (h : ∀ x y, x < pw → y < ph → pxy pw A x y = pxy pw B x y) : A = B := by
 refine px_ext (by rw [hA, hB]) fun i hi => ?_
 rw [hA] at hi
 have hpw : 0 < pw := by
  cases pw with
  | zero => simp at hi
  | succ k => omega
 have := h (i % pw) (i / pw) (Nat.mod_lt i hpw) (Nat.div_lt_of_lt_mul hi)
 unfold pxy at this
 rw [idx_split] at this
 exact this

theorem turnS_ok {xs : List Int} (hv : vld pw ph xs = true) : turnS pw ph xs = { w := ph, h := pw, px := turnL pw ph xs, err := 0 } := by unfold turnS; rw [if_pos hv]; rfl
end Go.Proofs.YtekiemlniegddaaGreat
