/- Contracts and laws (Rates, CalmL, Long). -/
import Derived.Lib.Hide
namespace Go.Proofs.YtbdnjhnlfpfhcaaGreat
set_option linter.unusedVariables false
set_option linter.unusedSimpArgs false

def sumR (f : Nat → Nat) : Nat → Nat
  | 0 => 0
  | n + 1 => sumR f n + f n
theorem sumR_congr {f g : Nat → Nat} : ∀ {n : Nat}, (∀ i, i < n → f i = g i) → sumR f n = sumR g n
  | 0, _ => rfl
  | n + 1, h => by simp only [sumR]; rw [sumR_congr fun i hi => h i (by omega), h n (by omega)]
theorem sumR_add (f g : Nat → Nat) : ∀ n, sumR (fun i => f i + g i) n = sumR f n + sumR g n
  | 0 => rfl
  | n + 1 => by simp only [sumR]; rw [sumR_add f g n]; omega
theorem sumR_mul (c : Nat) (f : Nat → Nat) : ∀ n, sumR (fun i => f i * c) n = sumR f n * c
  | 0 => by simp [sumR]
  | n + 1 => by simp only [sumR]; rw [sumR_mul c f n, Nat.add_mul]
theorem sumR_head (f : Nat → Nat) : ∀ n, sumR f (n + 1) = f 0 + sumR (fun i => f (i + 1)) n
  | 0 => by simp [sumR]
  | n + 1 => by
    rw [sumR, sumR_head f n]
    simp only [sumR]
    omega
theorem sumR_mono (f : Nat → Nat) {m n : Nat} (h : m ≤ n) : sumR f m ≤ sumR f n := by
  induction n with
  | zero => have : m = 0 := by omega
            subst this; exact Nat.le_refl _
  | succ n ih =>
    by_cases e : m = n + 1
    · subst e; exact Nat.le_refl _
    · have := ih (by omega)
      simp only [sumR]
      omega

/-- In how many ways k of n can be chosen. -/
def binom : Nat → Nat → Nat
  | _, 0 => 1
  | 0, _ + 1 => 0
  | n + 1, k + 1 => binom n k + binom n (k + 1)
theorem binom_zero (n : Nat) : binom n 0 = 1 := by cases n <;> rfl
theorem binom_over : ∀ (n k : Nat), n < k → binom n k = 0
  | n, 0, h => by omega
  | 0, k + 1, _ => rfl
  | n + 1, k + 1, h => by rw [binom, binom_over n k (by omega), binom_over n (k + 1) (by omega)]
theorem binom_self : ∀ (n : Nat), binom n n = 1
  | 0 => rfl
  | n + 1 => by rw [binom, binom_self n, binom_over n (n + 1) (by omega)]

/-- The weight of h hits in m trials, from trial to trial; p and q are the weights of a hit and of none. -/
def distR (p q : Nat) : Nat → Nat → Nat
  | 0, 0 => 1
  | 0, _ + 1 => 0
  | m + 1, 0 => distR p q m 0 * q
  | m + 1, h + 1 => distR p q m (h + 1) * q + distR p q m h * p
theorem distR_zero (p q : Nat) : ∀ m, distR p q m 0 = q ^ m
  | 0 => rfl
  | m + 1 => by rw [distR, distR_zero p q m, Nat.pow_succ]
theorem distR_binom (p q : Nat) : ∀ (m h : Nat), distR p q m h = binom m h * p ^ h * q ^ (m - h)
  | m, 0 => by rw [distR_zero, binom_zero]; simp
  | 0, h + 1 => by simp [distR, binom]
  | m + 1, h + 1 => by
    rw [distR, distR_binom p q m (h + 1), distR_binom p q m h, binom]
    by_cases hh : h + 1 ≤ m
    · obtain ⟨d, rfl⟩ : ∃ d, m = h + 1 + d := ⟨m - (h + 1), by omega⟩
      rw [show h + 1 + d - (h + 1) = d by omega, show h + 1 + d - h = d + 1 by omega, show h + 1 + d + 1 - (h + 1) = d + 1 by omega]
      rw [Nat.pow_succ p h, Nat.pow_succ q d, Nat.add_mul, Nat.add_mul]
      have e1 : binom (h + 1 + d) (h + 1) * (p ^ h * p) * q ^ d * q = binom (h + 1 + d) (h + 1) * (p ^ h * p) * (q ^ d * q) := by rw [Nat.mul_assoc _ (q ^ d) q]
      have e2 : binom (h + 1 + d) h * p ^ h * (q ^ d * q) * p = binom (h + 1 + d) h * (p ^ h * p) * (q ^ d * q) := by
        rw [Nat.mul_assoc (binom (h + 1 + d) h * p ^ h), Nat.mul_comm (q ^ d * q) p, ← Nat.mul_assoc, Nat.mul_assoc (binom (h + 1 + d) h) (p ^ h) p]
      omega
    · rw [binom_over m (h + 1) (by omega)]
      have : m - h = m + 1 - (h + 1) := by omega
      rw [← this, Nat.pow_succ]
      simp only [Nat.zero_mul, Nat.zero_add]
      by_cases e : m = h
      · subst e; simp [binom_self]
      · rw [binom_over m h (by omega)]; simp

/-- The weight of at most k hits in n trials. -/
def fewR (p q n k : Nat) : Nat := sumR (distR p q n) (k + 1)
theorem fewR_zero (p q k : Nat) : fewR p q 0 k = 1 := by
  have key : ∀ k, sumR (fun i => distR p q 0 (i + 1)) k = 0 := fun k => by
    induction k with
    | zero => rfl
    | succ k ih => exact ih
  unfold fewR
  rw [sumR_head, key]; rfl
/-- One more trial: no hit, or a hit and one less before. -/
theorem fewR_succ (p q n k : Nat) : fewR p q (n + 1) k = fewR p q n k * q + (match k with | 0 => 0 | k' + 1 => fewR p q n k') * p := by
  cases k with
  | zero => simp [fewR, sumR, distR]
  | succ k =>
    have e : fewR p q (n + 1) (k + 1) = distR p q (n + 1) 0 + sumR (fun i => distR p q (n + 1) (i + 1)) (k + 1) := sumR_head _ _
    have e2 : fewR p q n (k + 1) = distR p q n 0 + sumR (fun i => distR p q n (i + 1)) (k + 1) := sumR_head _ _
    rw [e, e2]
    simp only [distR]
    rw [sumR_add, sumR_mul, sumR_mul, Nat.add_mul]
    show _ = _ + _ + sumR (distR p q n) (k + 1) * p
    omega
theorem fewR_all (p q : Nat) : ∀ (n k : Nat), n ≤ k → fewR p q n k = (p + q) ^ n
  | 0, k, _ => by rw [fewR_zero]; rfl
  | n + 1, 0, h => by omega
  | n + 1, k + 1, h => by
    rw [fewR_succ]
    show fewR p q n (k + 1) * q + fewR p q n k * p = _
    rw [fewR_all p q n (k + 1) (by omega), fewR_all p q n k (by omega), Nat.pow_succ, ← Nat.mul_add, Nat.add_comm q p]
theorem fewR_le (p q n : Nat) {k l : Nat} (h : k ≤ l) : fewR p q n k ≤ fewR p q n l := sumR_mono _ (by omega)
/-- The chance of at most k hits does not grow with the rate. -/
theorem fewR_falls (B : Nat) : ∀ (n k j : Nat), j < B → fewR (j + 1) (B - (j + 1)) n k ≤ fewR j (B - j) n k
  | 0, k, j, _ => by rw [fewR_zero, fewR_zero]; exact Nat.le_refl _
  | n + 1, k, j, hj => by
    obtain ⟨d, hd⟩ : ∃ d, B - (j + 1) = d := ⟨_, rfl⟩
    have hd2 : B - j = d + 1 := by omega
    have h1 := fewR_falls B n k j hj
    rw [fewR_succ, fewR_succ, hd, hd2]
    rw [hd, hd2] at h1
    cases k with
    | zero =>
      simp only [Nat.zero_mul, Nat.add_zero]
      have := Nat.mul_le_mul_right d h1
      rw [Nat.mul_add]
      omega
    | succ k =>
      have h2 := fewR_falls B n k j hj
      rw [hd, hd2] at h2
      have h3 := fewR_le j (d + 1) n (show k ≤ k + 1 by omega)
      have m1 := Nat.mul_le_mul_right d h1
      have m2 := Nat.mul_le_mul_right (j + 1) h2
      simp only [Nat.mul_add, Nat.mul_one] at m2 ⊢
      omega
theorem fewR_falls_le {B n k i j : Nat} (hij : i ≤ j) (hj : j ≤ B) : fewR j (B - j) n k ≤ fewR i (B - i) n k := by
  induction j with
  | zero => have : i = 0 := by omega
            subst this; exact Nat.le_refl _
  | succ j ih =>
    by_cases e : i = j + 1
    · subst e; exact Nat.le_refl _
    · exact Nat.le_trans (fewR_falls B n k j (by omega)) (ih (by omega) (by omega))

/-- Whether the chance of at most k hits of n, for the rate j / 256, is at most num / den. -/
def fewB (n k j num den : Nat) : Bool := decide (fewR j (256 - j) n k * den ≤ num * 256 ^ n)
theorem fewB_rate {n k i j num den : Nat} (hij : i ≤ j) (hj : j ≤ 256) (h : fewB n k i num den = true) : fewB n k j num den = true := by
  unfold fewB at h ⊢
  rw [decide_eq_true_eq] at h ⊢
  exact Nat.le_trans (Nat.mul_le_mul_right den (fewR_falls_le hij hj)) h
/-- The least rate for which it is; 256 if there is none below. -/
def boundTo (f : Nat → Bool) : Nat → Nat
  | 0 => 256
  | m + 1 => if f (256 - (m + 1)) = true then 256 - (m + 1) else boundTo f m
def boundR (n k num den : Nat) : Nat := boundTo (fun j => fewB n k j num den) 256
theorem boundTo_spec {f : Nat → Bool} : ∀ {m : Nat}, m ≤ 256 → (∀ j, 256 - m ≤ j → j < boundTo f m → f j = false) ∧ 256 - m ≤ boundTo f m ∧ boundTo f m ≤ 256 ∧ (boundTo f m < 256 → f (boundTo f m) = true)
  | 0, _ => ⟨fun j h1 h2 => by simp [boundTo] at h2; omega, by simp [boundTo], by simp [boundTo], by simp [boundTo]⟩
  | m + 1, hm => by
    have ih := boundTo_spec (f := f) (m := m) (by omega)
    rw [boundTo]
    by_cases h : f (256 - (m + 1)) = true
    · rw [if_pos h]
      exact ⟨fun j h1 h2 => by omega, Nat.le_refl _, by omega, fun _ => h⟩
    · rw [if_neg h]
      refine ⟨fun j h1 h2 => ?_, by omega, ih.2.2.1, ih.2.2.2⟩
      by_cases e : j = 256 - (m + 1)
      · subst e; simpa using h
      · exact ih.1 j (by omega) h2
theorem boundR_spec (n k num den : Nat) : (∀ j, j < boundR n k num den → fewB n k j num den = false) ∧ boundR n k num den ≤ 256 ∧ (boundR n k num den < 256 → fewB n k (boundR n k num den) num den = true) := by
  have h := boundTo_spec (f := fun j => fewB n k j num den) (m := 256) (Nat.le_refl _)
  exact ⟨fun j hj => h.1 j (by omega) hj, h.2.2.1, h.2.2.2⟩
/-- What every search for it ends in. -/
theorem boundR_unique {n k num den b : Nat} (hb : b ≤ 256) (h1 : ∀ j, j < b → fewB n k j num den = false) (h2 : b < 256 → fewB n k b num den = true) : b = boundR n k num den := by
  obtain ⟨s1, s2, s3⟩ := boundR_spec n k num den
  rcases Nat.lt_trichotomy b (boundR n k num den) with h | h | h
  · have := s1 b h; rw [h2 (by omega)] at this; cases this
  · exact h
  · have := h1 _ h; rw [s3 (by omega)] at this; cases this

/-! ### Sequential tests -/

/-- Whether a test with the rates p and q (of 256) raises the alarm with h hits and m rounds without. -/
def raiseB (p q num den h m : Nat) : Bool := decide (den * p ^ h * (256 - p) ^ m ≤ num * q ^ h * (256 - q) ^ m)
/-- One round of a test, whatever the rate: x and y are what a hit and none lead to, U the bound. -/
theorem calm_step {p q r x y U : Nat} (hpq : p < q) (hq : q ≤ 255) (hp : 1 ≤ p) (hr : r ≤ p) (hx : x * p ≤ U * q) (hy : y * (256 - p) ≤ U * (256 - q)) : r * x + (256 - r) * y ≤ 256 * U := by
  obtain ⟨p', hp'⟩ : ∃ z, 256 - p = z := ⟨_, rfl⟩
  obtain ⟨q', hq'⟩ : ∃ z, 256 - q = z := ⟨_, rfl⟩
  rw [hp'] at hy
  rw [hq'] at hy
  have hyU : y ≤ U := by
    refine Nat.le_of_mul_le_mul_right (c := p') ?_ (by omega)
    exact Nat.le_trans hy (Nat.mul_le_mul_left U (by omega))
  have hxy : x * p + y * p' ≤ U * 256 := by
    have e : U * 256 = U * q + U * q' := by rw [← Nat.mul_add]; congr 1; omega
    omega
  refine Nat.le_of_mul_le_mul_left (c := p) ?_ (by omega)
  obtain ⟨d, hd⟩ : ∃ d, p = r + d := ⟨p - r, by omega⟩
  have h1 := Nat.mul_le_mul_left r hxy
  have h2 := Nat.mul_le_mul_left (d * 256) hyU
  have e0 : 256 - r = d + p' := by omega
  have e256 : (256 : Nat) = r + d + p' := by omega
  have key : p * (r * x + (256 - r) * y) = r * (x * p + y * p') + d * 256 * y := by
    rw [e0]
    have e3 : d * 256 * y = d * r * y + d * d * y + d * p' * y := by
      conv => lhs; rw [e256]
      simp only [Nat.mul_add, Nat.add_mul]
    rw [e3, hd]
    simp only [Nat.mul_add, Nat.add_mul, Nat.mul_assoc, Nat.mul_comm, Nat.mul_left_comm]
    omega
  rw [key]
  have e4 : p * (256 * U) = r * (U * 256) + d * 256 * U := by
    rw [hd, Nat.add_mul, Nat.mul_comm U 256, Nat.mul_assoc d]
  rw [e4]
  omega

end Go.Proofs.YtbdnjhnlfpfhcaaGreat

namespace Go.Proofs.YtbdnjhnlfpfhcaaGreat
set_option linter.unusedVariables false
set_option linter.unusedSimpArgs false

/-- What a sequence s (a bit for each round) leads to in some rounds. -/
def foldS {σ : Type} (st : Nat → σ → Bool → σ) (a : σ) (s : Nat) : Nat → σ
  | 0 => a
  | i + 1 => st i (foldS st a s i) (s.testBit i)
theorem foldS_congr {σ : Type} (st : Nat → σ → Bool → σ) (a : σ) {s s' : Nat} : ∀ {i : Nat}, (∀ j, j < i → s.testBit j = s'.testBit j) → foldS st a s i = foldS st a s' i
  | 0, _ => rfl
  | i + 1, h => by rw [foldS, foldS, foldS_congr st a (fun j hj => h j (by omega)), h i (by omega)]
theorem sumR_split (f : Nat → Nat) (m : Nat) : ∀ n, sumR f (m + n) = sumR f m + sumR (fun i => f (m + i)) n
  | 0 => rfl
  | n + 1 => by
    show sumR f (m + n) + f (m + n) = _
    rw [sumR_split f m n]
    simp only [sumR]
    omega
theorem sum_fold {σ : Type} (st : Nat → σ → Bool → σ) (a : σ) (F : σ → Nat) (i : Nat) :
    sumR (fun s => F (foldS st a s (i + 1))) (2 ^ (i + 1)) = sumR (fun s => F (st i (foldS st a s i) false) + F (st i (foldS st a s i) true)) (2 ^ i) := by
  rw [show 2 ^ (i + 1) = 2 ^ i + 2 ^ i by rw [Nat.pow_succ]; omega, sumR_split, sumR_add]
  have h1 : sumR (fun s => F (foldS st a s (i + 1))) (2 ^ i) = sumR (fun s => F (st i (foldS st a s i) false)) (2 ^ i) := sumR_congr fun s hs => by
    show F (st i (foldS st a s i) (s.testBit i)) = _
    rw [Nat.testBit_lt_two_pow hs]
  have h2 : sumR (fun s => F (foldS st a (2 ^ i + s) (i + 1))) (2 ^ i) = sumR (fun s => F (st i (foldS st a s i) true)) (2 ^ i) := sumR_congr fun s hs => by
    show F (st i (foldS st a (2 ^ i + s) i) ((2 ^ i + s).testBit i)) = _
    rw [Nat.testBit_two_pow_add_eq, Nat.testBit_lt_two_pow hs, foldS_congr st a (s := 2 ^ i + s) (s' := s) (fun j hj => Nat.testBit_two_pow_add_gt hj s)]
    rfl
  rw [h1, h2]

/-! ### Few hits -/

/-- Hits and weight. -/
def stepC (p q : Nat) (_ : Nat) (x : Nat × Nat) (b : Bool) : Nat × Nat := if b = true then (x.1 + 1, x.2 * p) else (x.1, x.2 * q)
def fewC (k : Nat) (x : Nat × Nat) : Nat := if x.1 ≤ k then x.2 else 0
theorem few_step (p q i : Nat) (x : Nat × Nat) : ∀ k, fewC k (stepC p q i x false) + fewC k (stepC p q i x true) = fewC k x * q + (match k with | 0 => 0 | k' + 1 => fewC k' x) * p
  | 0 => by simp [fewC, stepC]; split <;> simp
  | k + 1 => by simp only [fewC, stepC, if_true, Nat.add_le_add_iff_right]; simp; congr 1 <;> split <;> simp
theorem few_all (p q : Nat) : ∀ (n k : Nat), sumR (fun s => fewC k (foldS (stepC p q) (0, 1) s n)) (2 ^ n) = fewR p q n k
  | 0, k => by rw [fewR_zero]; simp [sumR, foldS, fewC]
  | n + 1, k => by
    rw [sum_fold, sumR_congr (fun s _ => few_step p q n _ k), sumR_add, sumR_mul, sumR_mul, few_all p q n k, fewR_succ]
    cases k with
    | zero =>
      show _ + sumR (fun _ => 0) _ * p = _
      have : ∀ m, sumR (fun _ => 0) m = 0 := fun m => by induction m with
        | zero => rfl
        | succ m ih => simpa [sumR] using ih
      rw [this]
    | succ k => rw [few_all p q n k]
theorem stepC_bd {p q : Nat} (hp : p ≤ 256) (hq : q ≤ 256) (s : Nat) : ∀ n, (foldS (stepC p q) (0, 1) s n).1 ≤ n ∧ (foldS (stepC p q) (0, 1) s n).2 ≤ 256 ^ n
  | 0 => ⟨Nat.le_refl _, Nat.le_refl _⟩
  | n + 1 => by
    obtain ⟨h1, h2⟩ := stepC_bd hp hq s n
    rw [foldS, Nat.pow_succ]
    unfold stepC
    split
    · exact ⟨Nat.succ_le_succ h1, Nat.mul_le_mul h2 hp⟩
    · exact ⟨Nat.le_succ_of_le h1, Nat.mul_le_mul h2 hq⟩
theorem few_part {p q n k m : Nat} (hpq : p + q = 256) (hm : m ≤ 2 ^ n) : sumR (fun s => fewC k (foldS (stepC p q) (0, 1) s n)) m ≤ 256 ^ n := by
  refine Nat.le_trans (sumR_mono _ hm) ?_
  rw [few_all]
  by_cases h : k ≤ n
  · refine Nat.le_trans (fewR_le p q n h) ?_
    rw [fewR_all p q n n (Nat.le_refl _), hpq]
    exact Nat.le_refl _
  · rw [fewR_all p q n k (by omega), hpq]
    exact Nat.le_refl _

/-! ### An alarm -/

/-- Hits, whether there was an alarm, the weight. -/
structure StA where
  h : Nat
  a : Bool
  w : Nat
/-- One round: 'rt' is the rate by rounds and hits before, 'ra' whether the alarm is raised, by hits and others. -/
def stepA (rt : Nat → Nat → Nat) (ra : Nat → Nat → Bool) (i : Nat) (x : StA) (b : Bool) : StA :=
  if b = true then ⟨x.h + 1, x.a || ra (x.h + 1) (i + 1 - (x.h + 1)), x.w * rt i x.h⟩ else ⟨x.h, x.a || ra x.h (i + 1 - x.h), x.w * (256 - rt i x.h)⟩
/-- The chance of an alarm within t more rounds. -/
def valA (rt : Nat → Nat → Nat) (ra : Nat → Nat → Bool) : Nat → Nat → Nat → Bool → Nat
  | 0, _, _, a => if a = true then 1 else 0
  | t + 1, i, h, a => rt i h * valA rt ra t (i + 1) (h + 1) (a || ra (h + 1) (i + 1 - (h + 1))) + (256 - rt i h) * valA rt ra t (i + 1) h (a || ra h (i + 1 - h))
abbrev st0 : StA := ⟨0, false, 1⟩
theorem val_step (rt : Nat → Nat → Nat) (ra : Nat → Nat → Bool) (t i : Nat) (x : StA) :
    (stepA rt ra i x false).w * valA rt ra t (i + 1) (stepA rt ra i x false).h (stepA rt ra i x false).a + (stepA rt ra i x true).w * valA rt ra t (i + 1) (stepA rt ra i x true).h (stepA rt ra i x true).a = x.w * valA rt ra (t + 1) i x.h x.a := by
  simp only [stepA, if_true, Bool.false_eq_true, if_false, valA]
  rw [Nat.mul_add, Nat.mul_assoc, Nat.mul_assoc]
  omega
theorem val_all (rt : Nat → Nat → Nat) (ra : Nat → Nat → Bool) : ∀ (i t : Nat), sumR (fun s => (foldS (stepA rt ra) st0 s i).w * valA rt ra t i (foldS (stepA rt ra) st0 s i).h (foldS (stepA rt ra) st0 s i).a) (2 ^ i) = valA rt ra (t + i) 0 0 false
  | 0, t => by simp [sumR, foldS]
  | i + 1, t => by
    rw [sum_fold (stepA rt ra) st0 (fun x => x.w * valA rt ra t (i + 1) x.h x.a) i, sumR_congr (fun s _ => val_step rt ra t i _), val_all rt ra i (t + 1)]
    rw [show t + 1 + i = t + (i + 1) by omega]
def alaA (x : StA) : Nat := if x.a = true then x.w else 0
theorem ala_all (rt : Nat → Nat → Nat) (ra : Nat → Nat → Bool) (n : Nat) : sumR (fun s => alaA (foldS (stepA rt ra) st0 s n)) (2 ^ n) = valA rt ra n 0 0 false := by
  have h := val_all rt ra n 0
  rw [Nat.zero_add] at h
  rw [← h]
  refine sumR_congr fun s _ => ?_
  unfold alaA valA
  split <;> simp
theorem val_le {rt : Nat → Nat → Nat} (hr : ∀ i h, rt i h ≤ 256) (ra : Nat → Nat → Bool) : ∀ (t i h : Nat) (a : Bool), valA rt ra t i h a ≤ 256 ^ t
  | 0, _, _, a => by unfold valA; split <;> simp
  | t + 1, i, h, a => by
    unfold valA
    have h1 := Nat.mul_le_mul_left (rt i h) (val_le hr ra t (i + 1) (h + 1) (a || ra (h + 1) (i + 1 - (h + 1))))
    have h2 := Nat.mul_le_mul_left (256 - rt i h) (val_le hr ra t (i + 1) h (a || ra h (i + 1 - h)))
    have h3 := hr i h
    have e : 256 ^ (t + 1) = rt i h * 256 ^ t + (256 - rt i h) * 256 ^ t := by
      rw [← Nat.add_mul, show rt i h + (256 - rt i h) = 256 by omega, Nat.pow_succ, Nat.mul_comm]
    omega
theorem ala_part {rt : Nat → Nat → Nat} (hr : ∀ i h, rt i h ≤ 256) (ra : Nat → Nat → Bool) {n m : Nat} (hm : m ≤ 2 ^ n) : sumR (fun s => alaA (foldS (stepA rt ra) st0 s n)) m ≤ 256 ^ n := by
  refine Nat.le_trans (sumR_mono _ hm) ?_
  rw [ala_all]
  exact val_le hr ra n 0 0 false
theorem stepA_bd {rt : Nat → Nat → Nat} (hr : ∀ i h, rt i h ≤ 256) (ra : Nat → Nat → Bool) (s : Nat) : ∀ n, (foldS (stepA rt ra) st0 s n).h ≤ n ∧ (foldS (stepA rt ra) st0 s n).w ≤ 256 ^ n
  | 0 => ⟨Nat.le_refl _, Nat.le_refl _⟩
  | n + 1 => by
    obtain ⟨h1, h2⟩ := stepA_bd hr ra s n
    rw [foldS, Nat.pow_succ]
    unfold stepA
    split
    · exact ⟨Nat.succ_le_succ h1, Nat.mul_le_mul h2 (hr _ _)⟩
    · exact ⟨Nat.le_succ_of_le h1, Nat.mul_le_mul h2 (by omega)⟩
/-- The bound goes on from round to round, until the alarm is raised. -/
theorem val_bound {p q num den : Nat} {rt : Nat → Nat → Nat} (hpq : p < q) (hq : q ≤ 255) (hp : 1 ≤ p) (hr : ∀ i h, rt i h ≤ p) : ∀ (t i h : Nat), h ≤ i →
    valA rt (raiseB p q num den) t i h false * (den * p ^ h * (256 - p) ^ (i - h)) ≤ num * q ^ h * (256 - q) ^ (i - h) * 256 ^ t
  | 0, i, h, _ => by simp [valA]
  | t + 1, i, h, hi => by
    have hl : ∀ i h, rt i h ≤ 256 := fun i h => by have := hr i h; omega
    have key : ∀ h', h' ≤ i + 1 → valA rt (raiseB p q num den) t (i + 1) h' (false || raiseB p q num den h' (i + 1 - h')) * (den * p ^ h' * (256 - p) ^ (i + 1 - h')) ≤ num * q ^ h' * (256 - q) ^ (i + 1 - h') * 256 ^ t := fun h' hh => by
      rw [Bool.false_or]
      cases e : raiseB p q num den h' (i + 1 - h') with
      | false => exact val_bound hpq hq hp hr t (i + 1) h' hh
      | true =>
        have e2 := e
        unfold raiseB at e2
        rw [decide_eq_true_eq] at e2
        rw [Nat.mul_comm]
        exact Nat.mul_le_mul e2 (val_le hl _ _ _ _ _)
    have k1 := key (h + 1) (by omega)
    have k2 := key h (by omega)
    rw [show i + 1 - (h + 1) = i - h by omega] at k1
    rw [show i + 1 - h = i - h + 1 by omega] at k2
    unfold valA
    rw [show i + 1 - (h + 1) = i - h by omega, show i + 1 - h = i - h + 1 by omega]
    obtain ⟨X, hX⟩ : ∃ X, valA rt (raiseB p q num den) t (i + 1) (h + 1) (false || raiseB p q num den (h + 1) (i - h)) = X := ⟨_, rfl⟩
    obtain ⟨Y, hY⟩ : ∃ Y, valA rt (raiseB p q num den) t (i + 1) h (false || raiseB p q num den h (i - h + 1)) = Y := ⟨_, rfl⟩
    rw [hX] at k1 ⊢
    rw [hY] at k2 ⊢
    obtain ⟨A, hA⟩ : ∃ A, den * p ^ h * (256 - p) ^ (i - h) = A := ⟨_, rfl⟩
    obtain ⟨B, hB⟩ : ∃ B, num * q ^ h * (256 - q) ^ (i - h) = B := ⟨_, rfl⟩
    have a1 : den * p ^ (h + 1) * (256 - p) ^ (i - h) = A * p := by rw [← hA, Nat.pow_succ, ← Nat.mul_assoc, Nat.mul_right_comm]
    have b1 : num * q ^ (h + 1) * (256 - q) ^ (i - h) = B * q := by rw [← hB, Nat.pow_succ, ← Nat.mul_assoc, Nat.mul_right_comm]
    have a2 : den * p ^ h * (256 - p) ^ (i - h + 1) = A * (256 - p) := by rw [← hA, Nat.pow_succ, ← Nat.mul_assoc]
    have b2 : num * q ^ h * (256 - q) ^ (i - h + 1) = B * (256 - q) := by rw [← hB, Nat.pow_succ, ← Nat.mul_assoc]
    rw [a1, b1] at k1
    rw [a2, b2] at k2
    rw [hA, hB]
    have c := calm_step (x := X * A) (y := Y * A) (U := B * 256 ^ t) hpq hq hp (hr i h)
      (by rw [Nat.mul_assoc, Nat.mul_right_comm B]; exact k1) (by rw [Nat.mul_assoc, Nat.mul_right_comm B]; exact k2)
    have e1 : (rt i h * X + (256 - rt i h) * Y) * A = rt i h * (X * A) + (256 - rt i h) * (Y * A) := by rw [Nat.add_mul, Nat.mul_assoc, Nat.mul_assoc]
    have e2 : B * 256 ^ (t + 1) = 256 * (B * 256 ^ t) := by rw [Nat.pow_succ, ← Nat.mul_assoc, Nat.mul_comm 256]
    rw [e1, e2]
    exact c
theorem calm_all {p q num den : Nat} {rt : Nat → Nat → Nat} (hpq : p < q) (hq : q ≤ 255) (hp : 1 ≤ p) (hr : ∀ i h, rt i h ≤ p) (n : Nat) :
    sumR (fun s => alaA (foldS (stepA rt (raiseB p q num den)) st0 s n)) (2 ^ n) * den ≤ num * 256 ^ n := by
  rw [ala_all]
  have h := val_bound (num := num) (den := den) hpq hq hp hr n 0 0 (Nat.le_refl _)
  simpa using h
end Go.Proofs.YtbdnjhnlfpfhcaaGreat

namespace Go.Proofs.YtbdnjhnlfpfhcaaGreat
set_option linter.unusedVariables false
set_option linter.unusedSimpArgs false

/-- The number of some words to a base. -/
def valB (B : Nat) : List Nat → Nat
  | [] => 0
  | x :: r => x + B * valB B r
/-- All words are below the base. -/
def wordsB (B : Nat) (l : List Nat) : Prop := ∀ x ∈ l, x < B

theorem valB_append (B : Nat) : ∀ (l r : List Nat), valB B (l ++ r) = valB B l + B ^ l.length * valB B r
  | [], r => by simp [valB]
  | x :: l, r => by
    simp only [List.cons_append, valB, List.length_cons]
    rw [valB_append B l r, Nat.mul_add, Nat.pow_succ, ← Nat.mul_assoc, Nat.mul_comm B (B ^ l.length), Nat.add_assoc]
theorem valB_snoc (B : Nat) (l : List Nat) (x : Nat) : valB B (l ++ [x]) = valB B l + B ^ l.length * x := by
  rw [valB_append]; simp [valB]
theorem valB_zeros (B : Nat) : ∀ n, valB B (List.replicate n 0) = 0
  | 0 => rfl
  | n + 1 => by simp [List.replicate_succ, valB, valB_zeros B n]
theorem valB_set (B : Nat) : ∀ (l : List Nat) (i v : Nat), i < l.length → valB B (l.set i v) + B ^ i * l[i]?.getD 0 = valB B l + B ^ i * v
  | [], i, v, h => by simp at h
  | x :: l, 0, v, h => by simp [valB]; omega
  | x :: l, i + 1, v, h => by
    have ih := valB_set B l i v (by simpa using h)
    simp only [List.set_cons_succ, valB, List.getElem?_cons_succ]
    have h2 := congrArg (B * ·) ih
    simp only [Nat.mul_add, ← Nat.mul_assoc] at h2
    rw [Nat.pow_succ, Nat.mul_comm (B ^ i) B]
    omega
theorem valB_lt {B : Nat} (hB : 0 < B) : ∀ {l : List Nat}, wordsB B l → valB B l < B ^ l.length
  | [], _ => by simp [valB]
  | x :: l, h => by
    have ih := valB_lt hB (l := l) fun y hy => h y (List.mem_cons_of_mem _ hy)
    have hx := h x List.mem_cons_self
    have h2 : B * (valB B l + 1) ≤ B * B ^ l.length := Nat.mul_le_mul_left B ih
    simp only [valB, List.length_cons, Nat.pow_succ]
    rw [Nat.mul_comm (B ^ l.length) B]
    rw [Nat.mul_add] at h2
    omega
theorem valB_take_succ (B : Nat) (l : List Nat) {i : Nat} (h : i < l.length) : valB B (l.take (i + 1)) = valB B (l.take i) + B ^ i * l[i]?.getD 0 := by
  rw [List.take_add_one, List.getElem?_eq_getElem h]
  show valB B (l.take i ++ [l[i]]) = _
  rw [valB_snoc, List.length_take, Nat.min_eq_left (by omega)]
  rfl
theorem wordsB_set {B : Nat} {l : List Nat} (h : wordsB B l) {i v : Nat} (hv : v < B) : wordsB B (l.set i v) := fun x hx => by
  rcases List.mem_or_eq_of_mem_set hx with h1 | h1
  · exact h x h1
  · rw [h1]; exact hv
theorem wordsB_zeros {B : Nat} (hB : 0 < B) (n : Nat) : wordsB B (List.replicate n 0) := fun x hx => by rw [List.eq_of_mem_replicate hx]; exact hB
theorem wordsB_take {B : Nat} {l : List Nat} (h : wordsB B l) (k : Nat) : wordsB B (l.take k) := fun x hx => h x (List.mem_of_mem_take hx)
theorem wordsB_get {B : Nat} (hB : 0 < B) {l : List Nat} (h : wordsB B l) (i : Nat) : l[i]?.getD 0 < B := by
  by_cases hi : i < l.length
  · rw [List.getElem?_eq_getElem hi]; exact h _ (List.getElem_mem hi)
  · rw [List.getElem?_eq_none (by omega)]; exact hB

/-! ### Products with a word: the state after the first i words -/

/-- What has been laid down: the words so far, the rest zeros; the number is that of the first i words times n. -/
structure TimesB (B n : Nat) (a : List Nat) (i : Nat) (o : List Nat) : Prop where
  len : o.length = a.length + 1
  words : wordsB B o
  val : valB B o = valB B (a.take i) * n
  rest : ∀ j, i < j → o[j]?.getD 0 = 0

theorem TimesB.start {B : Nat} (hB : 0 < B) (n : Nat) (a : List Nat) : TimesB B n a 0 (List.replicate (a.length + 1) 0) where
  len := by simp
  words := wordsB_zeros hB _
  val := by rw [valB_zeros]; simp [valB]
  rest j _ := by rw [List.getElem?_replicate]; split <;> rfl
/-- One more word: x * n in two halves, the lower one added to what stands there. -/
theorem TimesB.step {B n : Nat} {a : List Nat} {i : Nat} {o : List Nat} (h : TimesB B n a i o) (hB : 0 < B) (hi : i < a.length) {x hi' lo s c : Nat} (hx : a[i]?.getD 0 = x) (hmul : x * n = hi' * B + lo) (hsum : o[i]?.getD 0 + lo = c * B + s) (hs : s < B) (hc : hi' + c < B) :
    TimesB B n a (i + 1) ((o.set i s).set (i + 1) (hi' + c)) := by
  have hl := h.len
  have h1 := valB_set B o i s (by omega)
  have h2 := valB_set B (o.set i s) (i + 1) (hi' + c) (by rw [List.length_set]; omega)
  have h3 : (o.set i s)[i + 1]?.getD 0 = 0 := by
    rw [List.getElem?_set_ne (by omega)]; exact h.rest _ (by omega)
  rw [h3, Nat.mul_zero, Nat.add_zero] at h2
  refine ⟨by simp [hl], wordsB_set (wordsB_set h.words hs) hc, ?_, fun j hj => ?_⟩
  · rw [h2, valB_take_succ B a hi, hx, Nat.add_mul, ← h.val, Nat.mul_assoc, hmul]
    have e1 := congrArg (B ^ i * ·) hsum
    simp only [Nat.mul_add] at e1 ⊢
    rw [Nat.pow_succ]
    have e2 : B ^ i * (c * B) = B ^ i * B * c := by rw [Nat.mul_comm c B, Nat.mul_assoc]
    have e3 : B ^ i * (hi' * B) = B ^ i * B * hi' := by rw [Nat.mul_comm hi' B, Nat.mul_assoc]
    omega
  · rw [List.getElem?_set_ne (by omega), List.getElem?_set_ne (by omega)]
    exact h.rest j (by omega)
theorem TimesB.done {B n : Nat} {a : List Nat} {o : List Nat} (h : TimesB B n a a.length o) : valB B o = valB B a * n := by rw [h.val, List.take_length]
/-- The higher half and the carry fit into a word. -/
theorem half_fits {B x n w hi' lo s c : Nat} (hx : x < B) (hn : n < B) (hw : w < B) (hmul : x * n = hi' * B + lo) (hsum : w + lo = c * B + s) : hi' + c < B := by
  refine Nat.lt_of_not_le fun h => ?_
  have h1 : B * B ≤ (hi' + c) * B := Nat.mul_le_mul_right B h
  have h2 : x * n ≤ (B - 1) * (B - 1) := Nat.mul_le_mul (by omega) (by omega)
  have h3 : (B - 1) * (B - 1) + (B - 1) + (B - 1) + 1 = B * B := by
    obtain ⟨k, rfl⟩ : ∃ k, B = k + 1 := ⟨B - 1, by omega⟩
    simp only [Nat.add_sub_cancel, Nat.add_mul, Nat.mul_add]
    omega
  rw [Nat.add_mul] at h1
  omega

/-! ### Sums -/

theorem valB_take_more {B : Nat} {l : List Nat} {i : Nat} : valB B (l.take (i + 1)) = valB B (l.take i) + B ^ i * l[i]?.getD 0 := by
  by_cases h : i < l.length
  · exact valB_take_succ B l h
  · rw [List.take_of_length_le (by omega), List.take_of_length_le (by omega), List.getElem?_eq_none (by omega)]; simp

/-! ### Comparisons -/

/-- No zeros at the end. -/
def trimmed (l : List Nat) : Prop := ∀ i, i + 1 = l.length → l[i]?.getD 0 ≠ 0
theorem valB_ge {B : Nat} {l : List Nat} {i : Nat} (h : i < l.length) (hne : l[i]?.getD 0 ≠ 0) : B ^ i ≤ valB B l := by
  have h1 : l.take (i + 1) ++ l.drop (i + 1) = l := List.take_append_drop _ _
  rw [← h1, valB_append, valB_take_succ B l h]
  have : B ^ i * 1 ≤ B ^ i * l[i]?.getD 0 := Nat.mul_le_mul_left _ (by omega)
  omega
theorem val_short {B : Nat} (hB : 0 < B) {a b : List Nat} (ha : wordsB B a) (hb : trimmed b) (h : a.length < b.length) : valB B a < valB B b := by
  have h1 := valB_lt hB ha
  have h2 := valB_ge (B := B) (l := b) (i := b.length - 1) (by omega) (hb _ (by omega))
  have h3 : B ^ a.length ≤ B ^ (b.length - 1) := Nat.pow_le_pow_right hB (by omega)
  omega
theorem val_same {B : Nat} : ∀ (l r : List Nat), (∀ j : Nat, l[j]?.getD 0 = r[j]?.getD 0) → valB B l = valB B r
  | [], r, hr => by
    have : r = List.replicate r.length 0 := List.ext_getElem (by simp) fun j h1 h2 => by
      have := hr j
      rw [List.getElem?_eq_getElem h1] at this
      simpa using this.symm
    rw [this, valB_zeros]; rfl
  | x :: l, [], hr => by
    have h0 := hr 0
    have hz := val_same (B := B) l [] fun j => by have := hr (j + 1); simpa using this
    simp at h0
    simp [valB, h0, hz]
  | x :: l, y :: r, hr => by
    have h0 := hr 0
    simp at h0
    simp only [valB, h0]
    rw [val_same (B := B) l r fun j => by have := hr (j + 1); simpa using this]
/-- Lists that agree from i + 1 on are in the order of their entries i. -/
theorem val_order {B : Nat} (hB : 0 < B) {a b : List Nat} (ha : wordsB B a) (hb : wordsB B b) {i : Nat} (h : ∀ j : Nat, i < j → a[j]?.getD 0 = b[j]?.getD 0) (hlt : a[i]?.getD 0 < b[i]?.getD 0) : valB B a < valB B b := by
  have hd : ∀ l : List Nat, valB B l = valB B (l.take (i + 1)) + B ^ (i + 1) * valB B (l.drop (i + 1)) := fun l => by
    by_cases hl : i + 1 ≤ l.length
    · conv => lhs; rw [← List.take_append_drop (i + 1) l]
      rw [valB_append, List.length_take, Nat.min_eq_left hl]
    · rw [List.take_of_length_le (by omega), List.drop_of_length_le (by omega)]; simp [valB]
  have e := val_same (B := B) (a.drop (i + 1)) (b.drop (i + 1)) fun j => by
    rw [List.getElem?_drop, List.getElem?_drop]; exact h _ (by omega)
  rw [hd a, hd b, e]
  refine Nat.add_lt_add_right ?_ _
  rw [valB_take_more, valB_take_more]
  have h1 : valB B (a.take i) < B ^ i := by
    have h2 := valB_lt hB (wordsB_take ha i)
    have h3 : B ^ (a.take i).length ≤ B ^ i := Nat.pow_le_pow_right hB (by rw [List.length_take]; omega)
    omega
  have h2 : B ^ i * (a[i]?.getD 0 + 1) ≤ B ^ i * b[i]?.getD 0 := Nat.mul_le_mul_left _ hlt
  rw [Nat.mul_add] at h2
  omega

end Go.Proofs.YtbdnjhnlfpfhcaaGreat
