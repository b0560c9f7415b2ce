/- Opening and closing; dilating goes through the greater one, eroding through the lesser one: plain. -/
import Derived.Test.YtjglfeonoiljlaaAdj
import Derived.Test.YtjglfeonoiljlaaImgK
namespace Go.Proofs.Ytjglfeonoiljlaa
open Go
set_option linter.unusedVariables false
set_option linter.unusedSimpArgs false

def mor (pw ph sw sh : Nat) (bits : List Bool) (mx : Bool) (xs : List Int) : List Int := img pw ph (morG mx pw ph xs sw sh bits)
def rng (xs : List Int) : Prop := allIn (-2147483648) 2147483648 xs = true

theorem rng_img (pw ph : Nat) (g : Int → Int → Int) : rng (img pw ph g) := by
  unfold rng img
  simp only [allIn, List.all_eq_true, List.mem_map]
  rintro x ⟨i, _, rfl⟩
  have := clamp_bd (g (cX pw i) (cY pw i))
  simp [inR, this]
theorem vld_img {pw ph : Nat} (h1 : 1 ≤ pw) (h2 : pw ≤ 16) (h3 : 1 ≤ ph) (h4 : ph ≤ 16) (g : Int → Int → Int) : vld pw ph (img pw ph g) = true := by
  have hr : allIn (-2147483648) 2147483648 (img pw ph g) = true := rng_img pw ph g
  simp only [vld, Bool.and_eq_true, inR_true, decide_eq_true_eq, hr, img_length]
  exact ⟨⟨⟨⟨by omega, by omega⟩, by omega, by omega⟩, by simp⟩, trivial⟩

theorem belowB_refl (n : Nat) (xs : List Int) : belowB n xs xs = true := belowB_iff.2 fun i _ => Int.le_refl _
theorem belowB_trans {n : Nat} {xs ys zs : List Int} (h : belowB n xs ys = true) (k : belowB n ys zs = true) : belowB n xs zs = true :=
  belowB_iff.2 fun i hi => Int.le_trans (belowB_iff.1 h i hi) (belowB_iff.1 k i hi)
theorem belowB_antisymm {n : Nat} {xs ys : List Int} (hx : xs.length = n) (hy : ys.length = n) (h : belowB n xs ys = true) (k : belowB n ys xs = true) : xs = ys :=
  px_ext (by rw [hx, hy]) fun i hi => Int.le_antisymm (belowB_iff.1 h i (by omega)) (belowB_iff.1 k i (by omega))

variable {pw ph sw sh : Nat} {bits : List Bool} {xs ys : List Int}
theorem mor_rng (mx : Bool) (xs : List Int) : rng (mor pw ph sw sh bits mx xs) := rng_img _ _ _
theorem mor_len (mx : Bool) (xs : List Int) : (mor pw ph sw sh bits mx xs).length = pw * ph := img_length _ _ _
theorem mor_gal (hx : rng xs) (hy : rng ys) : belowB (pw * ph) (mor pw ph sw sh bits true xs) ys = belowB (pw * ph) xs (mor pw ph sw sh bits false ys) := adj_iff hx hy

theorem open_le (hx : rng xs) : belowB (pw * ph) (mor pw ph sw sh bits true (mor pw ph sw sh bits false xs)) xs = true := by
  rw [mor_gal (mor_rng _ _) hx]; exact belowB_refl _ _
theorem le_close (hx : rng xs) : belowB (pw * ph) xs (mor pw ph sw sh bits false (mor pw ph sw sh bits true xs)) = true := by
  rw [← mor_gal hx (mor_rng _ _)]; exact belowB_refl _ _
theorem ero_once (hx : rng xs) : mor pw ph sw sh bits false (mor pw ph sw sh bits true (mor pw ph sw sh bits false xs)) = mor pw ph sw sh bits false xs := by
  refine belowB_antisymm (mor_len _ _) (mor_len _ _) ?_ (le_close (mor_rng _ _))
  rw [← mor_gal (mor_rng _ _) hx]
  exact belowB_trans (open_le (mor_rng _ _)) (open_le hx)
theorem dil_once (hx : rng xs) : mor pw ph sw sh bits true (mor pw ph sw sh bits false (mor pw ph sw sh bits true xs)) = mor pw ph sw sh bits true xs := by
  refine belowB_antisymm (mor_len _ _) (mor_len _ _) (open_le (mor_rng _ _)) ?_
  rw [mor_gal hx (mor_rng _ _)]
  exact belowB_trans (le_close hx) (le_close (mor_rng _ _))

theorem morTo_max (ok : Nat → Bool) (f g : Nat → Int) (n : Nat) : morTo true ok (fun t => max (f t) (g t)) n = max (morTo true ok f n) (morTo true ok g n) := by
  induction n with
  | zero => simp [morTo]
  | succ n ih =>
    simp only [morTo, if_true]
    rw [ih]
    split <;> omega
theorem morTo_min (ok : Nat → Bool) (f g : Nat → Int) (n : Nat) : morTo false ok (fun t => min (f t) (g t)) n = min (morTo false ok f n) (morTo false ok g n) := by
  induction n with
  | zero => simp [morTo]
  | succ n ih =>
    simp only [morTo, Bool.false_eq_true, if_false]
    rw [ih]
    split <;> omega

/-- The greater one (how 4), the lesser one (how 3) of two images. -/
def zipI (pw ph : Nat) (xs ys : List Int) (how : Int) : List Int := img pw ph (zipG pw xs ys how)
theorem zipI_px {how : Int} (hh : how = 3 ∨ how = 4) (hx : rng xs) (hy : rng ys) {i : Nat} (hi : i < pw * ph) : px (zipI pw ph xs ys how) i = zipF how (px xs i) (px ys i) := by
  have key : ∀ i, zipG pw xs ys how (cX pw i) (cY pw i) = zipF how (px xs i) (px ys i) := fun i => by unfold zipG; rw [cXY]
  unfold zipI
  rw [px_img (fun j hj => ?_) hi, key]
  rw [key]
  have h1 := px_bd hx j
  have h2 := px_bd hy j
  rcases hh with rfl | rfl
  · show -2147483648 ≤ min (px xs j) (px ys j) ∧ min (px xs j) (px ys j) ≤ 2147483648
    omega
  · show -2147483648 ≤ max (px xs j) (px ys j) ∧ max (px xs j) (px ys j) ≤ 2147483648
    omega

theorem dil_most (hx : rng xs) (hy : rng ys) : mor pw ph sw sh bits true (zipI pw ph xs ys 4) = zipI pw ph (mor pw ph sw sh bits true xs) (mor pw ph sw sh bits true ys) 4 := by
  refine px_ext (by rw [mor_len]; exact (img_length _ _ _).symm) fun i hi => ?_
  rw [mor_len] at hi
  have e := fun (zs : List Int) (hz : rng zs) => px_img (pw := pw) (ph := ph) (g := morG true pw ph zs sw sh bits) (fun i hi => mor_img hz _ _ _ _ _ _ _) hi
  rw [zipI_px (.inr rfl) (mor_rng _ _) (mor_rng _ _) hi]
  show px (img pw ph _) i = max (px (img pw ph _) i) (px (img pw ph _) i)
  rw [e (zipI pw ph xs ys 4) (rng_img _ _ _), e _ hx, e _ hy]
  unfold morG
  rw [← morTo_max]
  refine mor_congr fun t ht => ⟨rfl, fun hok => ?_⟩
  obtain ⟨q, hq, _, e1, _⟩ := mor_move hi hok
  unfold morVal
  rw [e1]
  exact zipI_px (.inr rfl) hx hy hq
theorem ero_least (hx : rng xs) (hy : rng ys) : mor pw ph sw sh bits false (zipI pw ph xs ys 3) = zipI pw ph (mor pw ph sw sh bits false xs) (mor pw ph sw sh bits false ys) 3 := by
  refine px_ext (by rw [mor_len]; exact (img_length _ _ _).symm) fun i hi => ?_
  rw [mor_len] at hi
  have e := fun (zs : List Int) (hz : rng zs) => px_img (pw := pw) (ph := ph) (g := morG false pw ph zs sw sh bits) (fun i hi => mor_img hz _ _ _ _ _ _ _) hi
  rw [zipI_px (.inl rfl) (mor_rng _ _) (mor_rng _ _) hi]
  show px (img pw ph _) i = min (px (img pw ph _) i) (px (img pw ph _) i)
  rw [e (zipI pw ph xs ys 3) (rng_img _ _ _), e _ hx, e _ hy]
  unfold morG
  rw [← morTo_min]
  refine mor_congr fun t ht => ⟨rfl, fun hok => ?_⟩
  obtain ⟨q, hq, _, e1, _⟩ := mor_move hi hok
  unfold morVal
  rw [e1]
  exact zipI_px (.inl rfl) hx hy hq

end Go.Proofs.Ytjglfeonoiljlaa
