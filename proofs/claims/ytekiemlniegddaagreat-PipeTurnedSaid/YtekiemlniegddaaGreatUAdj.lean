/- Dilating and eroding are adjoint: plain. -/
import Derived.Test.YtekiemlniegddaaGreatUSized
import Derived.Test.YtekiemlniegddaaGreatQH3
namespace Go.Proofs.YtekiemlniegddaaGreat
open Go
set_option linter.unusedVariables false
set_option linter.unusedSimpArgs false

theorem px_img {pw ph : Nat} {g : Int → Int → Int} (h : ∀ i, i < pw * ph → -2147483648 ≤ g (cX pw i) (cY pw i) ∧ g (cX pw i) (cY pw i) ≤ 2147483648) {i : Nat} (hi : i < pw * ph) : px (img pw ph g) i = g (cX pw i) (cY pw i) := by
 rw [← img_plain h, px_map_range _ hi]

/-- A place that an entry of the shape leads to leads back by the entry's other side. -/
theorem mor_move {pw ph sw sh : Nat} {bits : List Bool} {sg : Int} {i t : Nat} (hi : i < pw * ph) (hok : morOk sg pw ph sw sh bits (cX pw i) (cY pw i) t = true) :
  ∃ q : Nat, q < pw * ph ∧ morOk (-sg) pw ph sw sh bits (cX pw q) (cY pw q) t = true ∧ morV sg sw sh (cY pw i) t * pw + morU sg sw (cX pw i) t = (q : Int) ∧ morV (-sg) sw sh (cY pw q) t * pw + morU (-sg) sw (cX pw q) t = (i : Int) := by
 simp only [morOk, Bool.and_eq_true, inR_true] at hok
 obtain ⟨hs, ⟨u1, u2⟩, v1, v2⟩ := hok
 obtain ⟨X, hX⟩ : ∃ X : Nat, morU sg sw (cX pw i) t = (X : Int) := ⟨(morU sg sw (cX pw i) t).toNat, by omega⟩
 obtain ⟨Y, hY⟩ : ∃ Y : Nat, morV sg sw sh (cY pw i) t = (Y : Int) := ⟨(morV sg sw sh (cY pw i) t).toNat, by omega⟩
 rw [hX] at u1 u2
 rw [hY] at v1 v2
 have hXp : X < pw := by omega
 have hYp : Y < ph := by omega
 have hpw : 0 < pw := by omega
 have e1 : cX pw (Y * pw + X) = (X : Int) := by unfold cX; rw [idx_mod Y hXp]
 have e2 : cY pw (Y * pw + X) = (Y : Int) := by unfold cY; rw [idx_div Y hXp]
 have hix : cX pw i = ((i % pw : Nat) : Int) := rfl
 have hiy : cY pw i = ((i / pw : Nat) : Int) := rfl
 have hxm := Nat.mod_lt i hpw
 have hym : i / pw < ph := Nat.div_lt_of_lt_mul hi
 have hsp := idx_split pw i
 have f1 : morU (-sg) sw (X : Int) t = cX pw i := by
  rw [← hX]; unfold morU; rw [Int.neg_mul]; omega
 have f2 : morV (-sg) sw sh (Y : Int) t = cY pw i := by
  rw [← hY]; unfold morV; rw [Int.neg_mul]; omega
 refine ⟨Y * pw + X, idx_bound hXp hYp, ?_, by rw [hX, hY]; simp, ?_⟩
 ·rw [e1, e2]
  simp only [morOk, Bool.and_eq_true, inR_true]
  rw [f1, f2, hix, hiy]
  obtain ⟨I, hI⟩ : ∃ I, i % pw = I := ⟨_, rfl⟩
  obtain ⟨J, hJ⟩ : ∃ J, i / pw = J := ⟨_, rfl⟩
  rw [hI] at hxm ⊢
  rw [hJ] at hym ⊢
  exact ⟨hs, ⟨by omega, by omega⟩, by omega, by omega⟩
 ·rw [e1, e2, f1, f2, hix, hiy, ← Int.natCast_mul, ← Int.natCast_add, hsp]

theorem adj_iff {pw ph sw sh : Nat} {xs ys : List Int} {bits : List Bool} (hx : allIn (-2147483648) 2147483648 xs = true) (hy : allIn (-2147483648) 2147483648 ys = true) :
  belowB (pw * ph) (img pw ph (morG true pw ph xs sw sh bits)) ys = belowB (pw * ph) xs (img pw ph (morG false pw ph ys sw sh bits)) := by
 have hbx := fun i (hi : i < pw * ph) => px_img (pw := pw) (ph := ph) (g := morG true pw ph xs sw sh bits) (fun i hi => mor_img hx _ _ _ _ _ _ _) hi
 have hby := fun i (hi : i < pw * ph) => px_img (pw := pw) (ph := ph) (g := morG false pw ph ys sw sh bits) (fun i hi => mor_img hy _ _ _ _ _ _ _) hi
 rw [Bool.eq_iff_iff, belowB_iff, belowB_iff]
 constructor
 ·intro h q hq
  rw [hby q hq]
  refine le_mor.2 ⟨(px_bd hx _).2, fun t ht hok => ?_⟩
  obtain ⟨i, hi, hok2, e1, e2⟩ := mor_move hq hok
  have h1 := h i hi
  rw [hbx i hi] at h1
  have h2 := (mor_le.1 h1).2 t ht (by simpa [morSg] using hok2)
  unfold morVal at h2 ⊢
  rw [show morSg true = -morSg false from rfl, e2] at h2
  rw [e1]
  exact h2
 ·intro h i hi
  rw [hbx i hi]
  refine mor_le.2 ⟨(px_bd hy _).1, fun t ht hok => ?_⟩
  obtain ⟨q, hq, hok2, e1, e2⟩ := mor_move hi hok
  have h1 := h q hq
  rw [hby q hq] at h1
  have h2 := (le_mor.1 h1).2 t ht (by simpa [morSg] using hok2)
  unfold morVal at h2 ⊢
  rw [show morSg false = -morSg true from rfl, e2] at h2
  rw [e1]
  exact h2

end Go.Proofs.YtekiemlniegddaaGreat
