/- Contracts and laws (Rates). -/
import Derived.Lib.Hide
namespace Go.Proofs.YtbfigbpjoaccdaaGreat
set_option linter.unusedVariables false
set_option linter.unusedSimpArgs false

def sumR (f : Nat → Nat) : Nat → Nat
  | 0 => 0
  | n + 1 => sumR f n + f n
theorem sumR_congr {f g : Nat → Nat} : ∀ {n : Nat}, (∀ i, i < n → f i = g i) → sumR f n = sumR g n
  | 0, _ => rfl
  | n + 1, h => by simp only [sumR]; rw [sumR_congr fun i hi => h i (by omega), h n (by omega)]
theorem sumR_add (f g : Nat → Nat) : ∀ n, sumR (fun i => f i + g i) n = sumR f n + sumR g n
  | 0 => rfl
  | n + 1 => by simp only [sumR]; rw [sumR_add f g n]; omega
theorem sumR_mul (c : Nat) (f : Nat → Nat) : ∀ n, sumR (fun i => f i * c) n = sumR f n * c
  | 0 => by simp [sumR]
  | n + 1 => by simp only [sumR]; rw [sumR_mul c f n, Nat.add_mul]
theorem sumR_head (f : Nat → Nat) : ∀ n, sumR f (n + 1) = f 0 + sumR (fun i => f (i + 1)) n
  | 0 => by simp [sumR]
  | n + 1 => by
    rw [sumR, sumR_head f n]
    simp only [sumR]
    omega
theorem sumR_mono (f : Nat → Nat) {m n : Nat} (h : m ≤ n) : sumR f m ≤ sumR f n := by
  induction n with
  | zero => have : m = 0 := by omega
            subst this; exact Nat.le_refl _
  | succ n ih =>
    by_cases e : m = n + 1
    · subst e; exact Nat.le_refl _
    · have := ih (by omega)
      simp only [sumR]
      omega

/-- In how many ways k of n can be chosen. -/
def binom : Nat → Nat → Nat
  | _, 0 => 1
  | 0, _ + 1 => 0
  | n + 1, k + 1 => binom n k + binom n (k + 1)
theorem binom_zero (n : Nat) : binom n 0 = 1 := by cases n <;> rfl
theorem binom_over : ∀ (n k : Nat), n < k → binom n k = 0
  | n, 0, h => by omega
  | 0, k + 1, _ => rfl
  | n + 1, k + 1, h => by rw [binom, binom_over n k (by omega), binom_over n (k + 1) (by omega)]
theorem binom_self : ∀ (n : Nat), binom n n = 1
  | 0 => rfl
  | n + 1 => by rw [binom, binom_self n, binom_over n (n + 1) (by omega)]

/-- The weight of h hits in m trials, from trial to trial; p and q are the weights of a hit and of none. -/
def distR (p q : Nat) : Nat → Nat → Nat
  | 0, 0 => 1
  | 0, _ + 1 => 0
  | m + 1, 0 => distR p q m 0 * q
  | m + 1, h + 1 => distR p q m (h + 1) * q + distR p q m h * p
theorem distR_zero (p q : Nat) : ∀ m, distR p q m 0 = q ^ m
  | 0 => rfl
  | m + 1 => by rw [distR, distR_zero p q m, Nat.pow_succ]
theorem distR_binom (p q : Nat) : ∀ (m h : Nat), distR p q m h = binom m h * p ^ h * q ^ (m - h)
  | m, 0 => by rw [distR_zero, binom_zero]; simp
  | 0, h + 1 => by simp [distR, binom]
  | m + 1, h + 1 => by
    rw [distR, distR_binom p q m (h + 1), distR_binom p q m h, binom]
    by_cases hh : h + 1 ≤ m
    · obtain ⟨d, rfl⟩ : ∃ d, m = h + 1 + d := ⟨m - (h + 1), by omega⟩
      rw [show h + 1 + d - (h + 1) = d by omega, show h + 1 + d - h = d + 1 by omega, show h + 1 + d + 1 - (h + 1) = d + 1 by omega]
      rw [Nat.pow_succ p h, Nat.pow_succ q d, Nat.add_mul, Nat.add_mul]
      have e1 : binom (h + 1 + d) (h + 1) * (p ^ h * p) * q ^ d * q = binom (h + 1 + d) (h + 1) * (p ^ h * p) * (q ^ d * q) := by rw [Nat.mul_assoc _ (q ^ d) q]
      have e2 : binom (h + 1 + d) h * p ^ h * (q ^ d * q) * p = binom (h + 1 + d) h * (p ^ h * p) * (q ^ d * q) := by
        rw [Nat.mul_assoc (binom (h + 1 + d) h * p ^ h), Nat.mul_comm (q ^ d * q) p, ← Nat.mul_assoc, Nat.mul_assoc (binom (h + 1 + d) h) (p ^ h) p]
      omega
    · rw [binom_over m (h + 1) (by omega)]
      have : m - h = m + 1 - (h + 1) := by omega
      rw [← this, Nat.pow_succ]
      simp only [Nat.zero_mul, Nat.zero_add]
      by_cases e : m = h
      · subst e; simp [binom_self]
      · rw [binom_over m h (by omega)]; simp

/-- The weight of at most k hits in n trials. -/
def fewR (p q n k : Nat) : Nat := sumR (distR p q n) (k + 1)
theorem fewR_zero (p q k : Nat) : fewR p q 0 k = 1 := by
  have key : ∀ k, sumR (fun i => distR p q 0 (i + 1)) k = 0 := fun k => by
    induction k with
    | zero => rfl
    | succ k ih => exact ih
  unfold fewR
  rw [sumR_head, key]; rfl
/-- One more trial: no hit, or a hit and one less before. -/
theorem fewR_succ (p q n k : Nat) : fewR p q (n + 1) k = fewR p q n k * q + (match k with | 0 => 0 | k' + 1 => fewR p q n k') * p := by
  cases k with
  | zero => simp [fewR, sumR, distR]
  | succ k =>
    have e : fewR p q (n + 1) (k + 1) = distR p q (n + 1) 0 + sumR (fun i => distR p q (n + 1) (i + 1)) (k + 1) := sumR_head _ _
    have e2 : fewR p q n (k + 1) = distR p q n 0 + sumR (fun i => distR p q n (i + 1)) (k + 1) := sumR_head _ _
    rw [e, e2]
    simp only [distR]
    rw [sumR_add, sumR_mul, sumR_mul, Nat.add_mul]
    show _ = _ + _ + sumR (distR p q n) (k + 1) * p
    omega
theorem fewR_all (p q : Nat) : ∀ (n k : Nat), n ≤ k → fewR p q n k = (p + q) ^ n
  | 0, k, _ => by rw [fewR_zero]; rfl
  | n + 1, 0, h => by omega
  | n + 1, k + 1, h => by
    rw [fewR_succ]
    show fewR p q n (k + 1) * q + fewR p q n k * p = _
    rw [fewR_all p q n (k + 1) (by omega), fewR_all p q n k (by omega), Nat.pow_succ, ← Nat.mul_add, Nat.add_comm q p]
theorem fewR_le (p q n : Nat) {k l : Nat} (h : k ≤ l) : fewR p q n k ≤ fewR p q n l := sumR_mono _ (by omega)
theorem fewR_none (p n k : Nat) (h : k < n) : fewR p 0 n k = 0 := by
  have : ∀ n k, k < n → fewR p 0 n k = 0 := by
    intro n
    induction n with
    | zero => intro k h; omega
    | succ n ih =>
      intro k h
      rw [fewR_succ]
      cases k with
      | zero => simp
      | succ k => simp [ih k (by omega)]
  exact this n k h
/-- The chance of at most k hits does not grow with the rate. -/
theorem fewR_falls (B : Nat) : ∀ (n k j : Nat), j < B → fewR (j + 1) (B - (j + 1)) n k ≤ fewR j (B - j) n k
  | 0, k, j, _ => by rw [fewR_zero, fewR_zero]; exact Nat.le_refl _
  | n + 1, k, j, hj => by
    obtain ⟨d, hd⟩ : ∃ d, B - (j + 1) = d := ⟨_, rfl⟩
    have hd2 : B - j = d + 1 := by omega
    have h1 := fewR_falls B n k j hj
    rw [fewR_succ, fewR_succ, hd, hd2]
    rw [hd, hd2] at h1
    cases k with
    | zero =>
      simp only [Nat.zero_mul, Nat.add_zero]
      have := Nat.mul_le_mul_right d h1
      rw [Nat.mul_add]
      omega
    | succ k =>
      have h2 := fewR_falls B n k j hj
      rw [hd, hd2] at h2
      have h3 := fewR_le j (d + 1) n (show k ≤ k + 1 by omega)
      have m1 := Nat.mul_le_mul_right d h1
      have m2 := Nat.mul_le_mul_right (j + 1) h2
      simp only [Nat.mul_add, Nat.mul_one] at m2 ⊢
      omega
theorem fewR_falls_le {B n k i j : Nat} (hij : i ≤ j) (hj : j ≤ B) : fewR j (B - j) n k ≤ fewR i (B - i) n k := by
  induction j with
  | zero => have : i = 0 := by omega
            subst this; exact Nat.le_refl _
  | succ j ih =>
    by_cases e : i = j + 1
    · subst e; exact Nat.le_refl _
    · exact Nat.le_trans (fewR_falls B n k j (by omega)) (ih (by omega) (by omega))

/-- Whether the chance of at most k hits of n, for the rate j / 256, is at most num / den. -/
def fewB (n k j num den : Nat) : Bool := decide (fewR j (256 - j) n k * den ≤ num * 256 ^ n)
theorem fewB_rate {n k i j num den : Nat} (hij : i ≤ j) (hj : j ≤ 256) (h : fewB n k i num den = true) : fewB n k j num den = true := by
  unfold fewB at h ⊢
  rw [decide_eq_true_eq] at h ⊢
  exact Nat.le_trans (Nat.mul_le_mul_right den (fewR_falls_le hij hj)) h
theorem fewB_less {n k l j num den : Nat} (hkl : k ≤ l) (h : fewB n l j num den = true) : fewB n k j num den = true := by
  unfold fewB at h ⊢
  rw [decide_eq_true_eq] at h ⊢
  exact Nat.le_trans (Nat.mul_le_mul_right den (fewR_le _ _ _ hkl)) h
theorem fewB_last {n k num den : Nat} (h : k < n) : fewB n k 256 num den = true := by
  unfold fewB
  rw [show 256 - 256 = 0 from rfl, fewR_none _ _ _ h]
  simp
theorem fewB_never {n k j num den : Nat} (hk : n ≤ k) (hj : j ≤ 256) (h : num < den) : fewB n k j num den = false := by
  unfold fewB
  rw [fewR_all _ _ _ _ hk, show j + (256 - j) = 256 by omega, decide_eq_false_iff_not, Nat.mul_comm num]
  intro hle
  have := Nat.le_of_mul_le_mul_left hle (Nat.pow_pos (by decide))
  omega
/-- The least rate for which it is; 256 if there is none below. -/
def boundTo (f : Nat → Bool) : Nat → Nat
  | 0 => 256
  | m + 1 => if f (256 - (m + 1)) = true then 256 - (m + 1) else boundTo f m
def boundR (n k num den : Nat) : Nat := boundTo (fun j => fewB n k j num den) 256
theorem boundTo_spec {f : Nat → Bool} : ∀ {m : Nat}, m ≤ 256 → (∀ j, 256 - m ≤ j → j < boundTo f m → f j = false) ∧ 256 - m ≤ boundTo f m ∧ boundTo f m ≤ 256 ∧ (boundTo f m < 256 → f (boundTo f m) = true)
  | 0, _ => ⟨fun j h1 h2 => by simp [boundTo] at h2; omega, by simp [boundTo], by simp [boundTo], by simp [boundTo]⟩
  | m + 1, hm => by
    have ih := boundTo_spec (f := f) (m := m) (by omega)
    rw [boundTo]
    by_cases h : f (256 - (m + 1)) = true
    · rw [if_pos h]
      exact ⟨fun j h1 h2 => by omega, Nat.le_refl _, by omega, fun _ => h⟩
    · rw [if_neg h]
      refine ⟨fun j h1 h2 => ?_, by omega, ih.2.2.1, ih.2.2.2⟩
      by_cases e : j = 256 - (m + 1)
      · subst e; simpa using h
      · exact ih.1 j (by omega) h2
theorem boundR_spec (n k num den : Nat) : (∀ j, j < boundR n k num den → fewB n k j num den = false) ∧ boundR n k num den ≤ 256 ∧ (boundR n k num den < 256 → fewB n k (boundR n k num den) num den = true) := by
  have h := boundTo_spec (f := fun j => fewB n k j num den) (m := 256) (Nat.le_refl _)
  exact ⟨fun j hj => h.1 j (by omega) hj, h.2.2.1, h.2.2.2⟩
/-- What every search for it ends in. -/
theorem boundR_unique {n k num den b : Nat} (hb : b ≤ 256) (h1 : ∀ j, j < b → fewB n k j num den = false) (h2 : b < 256 → fewB n k b num den = true) : b = boundR n k num den := by
  obtain ⟨s1, s2, s3⟩ := boundR_spec n k num den
  rcases Nat.lt_trichotomy b (boundR n k num den) with h | h | h
  · have := s1 b h; rw [h2 (by omega)] at this; cases this
  · exact h
  · have := h1 _ h; rw [s3 (by omega)] at this; cases this

/-! ### Sequential tests -/

/-- Whether a test with the rates p and q (of 256) raises the alarm with h hits and m rounds without. -/
def raiseB (p q num den h m : Nat) : Bool := decide (den * p ^ h * (256 - p) ^ m ≤ num * q ^ h * (256 - q) ^ m)
theorem raiseB_more {p q num den h m : Nat} (hpq : p < q) (hr : raiseB p q num den h m = true) : raiseB p q num den (h + 1) m = true := by
  unfold raiseB at hr ⊢
  rw [decide_eq_true_eq] at hr ⊢
  have h1 := Nat.mul_le_mul hr (Nat.le_of_lt hpq)
  rw [Nat.pow_succ, Nat.pow_succ]
  have e1 : den * (p ^ h * p) * (256 - p) ^ m = den * p ^ h * (256 - p) ^ m * p := by rw [← Nat.mul_assoc, Nat.mul_assoc _ p, Nat.mul_comm p, ← Nat.mul_assoc]
  have e2 : num * (q ^ h * q) * (256 - q) ^ m = num * q ^ h * (256 - q) ^ m * q := by rw [← Nat.mul_assoc, Nat.mul_assoc _ q, Nat.mul_comm q, ← Nat.mul_assoc]
  rw [e1, e2]
  exact h1
theorem raiseB_instead {p q num den h m : Nat} (hpq : p < q) (hq : q ≤ 255) (hr : raiseB p q num den h (m + 1) = true) : raiseB p q num den (h + 1) m = true := by
  unfold raiseB at hr ⊢
  rw [decide_eq_true_eq] at hr ⊢
  obtain ⟨p', hp'⟩ : ∃ x, 256 - p = x := ⟨_, rfl⟩
  obtain ⟨q', hq'⟩ : ∃ x, 256 - q = x := ⟨_, rfl⟩
  rw [hp', hq'] at hr ⊢
  have hlt : q' < p' := by omega
  have hc : q' * p ≤ q * p' := Nat.le_trans (Nat.mul_le_mul (Nat.le_of_lt hlt) (Nat.le_of_lt hpq)) (by rw [Nat.mul_comm]; exact Nat.le_refl _)
  refine Nat.le_of_mul_le_mul_right (c := p') ?_ (by omega)
  have h1 := Nat.mul_le_mul_right p hr
  have h2 := Nat.mul_le_mul_left (num * q ^ h * q' ^ m) hc
  have e1 : den * p ^ (h + 1) * p' ^ m * p' = den * p ^ h * p' ^ (m + 1) * p := by
    rw [Nat.pow_succ, Nat.pow_succ]
    simp only [Nat.mul_assoc, Nat.mul_comm, Nat.mul_left_comm]
  have e2 : num * q ^ h * q' ^ (m + 1) * p = num * q ^ h * q' ^ m * (q' * p) := by
    rw [Nat.pow_succ]
    simp only [Nat.mul_assoc, Nat.mul_comm, Nat.mul_left_comm]
  have e3 : num * q ^ (h + 1) * q' ^ m * p' = num * q ^ h * q' ^ m * (q * p') := by
    rw [Nat.pow_succ]
    simp only [Nat.mul_assoc, Nat.mul_comm, Nat.mul_left_comm]
  rw [e1, e3]
  rw [e2] at h1
  exact Nat.le_trans h1 h2

end Go.Proofs.YtbfigbpjoaccdaaGreat
