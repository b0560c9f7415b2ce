/- Opening and closing; dilating goes through the greater one, eroding through the lesser one: plain. -/
import Derived.Test.YtekiemlniegddaaGreatUAdj
import Derived.Test.YtekiemlniegddaaGreatQH2
namespace Go.Proofs.YtekiemlniegddaaGreat
open Go
set_option linter.unusedVariables false
set_option linter.unusedSimpArgs false

def mor (pw ph sw sh : Nat) (bits : List Bool) (mx : Bool) (xs : List Int) : List Int := img pw ph (morG mx pw ph xs sw sh bits)
def rng (xs : List Int) : Prop := allIn (-2147483648) 2147483648 xs = true

theorem rng_img (pw ph : Nat) (g : Int → Int → Int) : rng (img pw ph g) := by
 unfold rng img
 simp only [allIn, List.all_eq_true, List.mem_map]
 rintro x ⟨i, _, rfl⟩
 have := clamp_bd (g (cX pw i) (cY pw i))
 simp [inR, this]
theorem belowB_refl (n : Nat) (xs : List Int) : belowB n xs xs = true := belowB_iff.2 fun i _ => Int.le_refl _
theorem belowB_trans {n : Nat} {xs ys zs : List Int} (h : belowB n xs ys = true) (k : belowB n ys zs = true) : belowB n xs zs = true :=
 belowB_iff.2 fun i hi => Int.le_trans (belowB_iff.1 h i hi) (belowB_iff.1 k i hi)
variable {pw ph sw sh : Nat} {bits : List Bool} {xs ys : List Int}
theorem mor_rng (mx : Bool) (xs : List Int) : rng (mor pw ph sw sh bits mx xs) := rng_img _ _ _
theorem mor_gal (hx : rng xs) (hy : rng ys) : belowB (pw * ph) (mor pw ph sw sh bits true xs) ys = belowB (pw * ph) xs (mor pw ph sw sh bits false ys) := adj_iff hx hy

theorem open_le (hx : rng xs) : belowB (pw * ph) (mor pw ph sw sh bits true (mor pw ph sw sh bits false xs)) xs = true := by
 rw [mor_gal (mor_rng _ _) hx]; exact belowB_refl _ _
theorem le_close (hx : rng xs) : belowB (pw * ph) xs (mor pw ph sw sh bits false (mor pw ph sw sh bits true xs)) = true := by
 rw [← mor_gal hx (mor_rng _ _)]; exact belowB_refl _ _
/-- The greater one (how 4), the lesser one (how 3) of two images. -/
def zipI (pw ph : Nat) (xs ys : List Int) (how : Int) : List Int := img pw ph (zipG pw xs ys how)
theorem zipI_px {how : Int} (hh : how = 3 ∨ how = 4) (hx : rng xs) (hy : rng ys) {i : Nat} (hi : i < pw * ph) : px (zipI pw ph xs ys how) i = zipF how (px xs i) (px ys i) := by
 have key : ∀ i, zipG pw xs ys how (cX pw i) (cY pw i) = zipF how (px xs i) (px ys i) := fun i => by unfold zipG; rw [cXY]
 unfold zipI
 rw [px_img (fun j hj => ?_) hi, key]
 rw [key]
 have h1 := px_bd hx j
 have h2 := px_bd hy j
 rcases hh with rfl | rfl
 ·show -2147483648 ≤ min (px xs j) (px ys j) ∧ min (px xs j) (px ys j) ≤ 2147483648
  omega
 ·show -2147483648 ≤ max (px xs j) (px ys j) ∧ max (px xs j) (px ys j) ≤ 2147483648
  omega

end Go.Proofs.YtekiemlniegddaaGreat
