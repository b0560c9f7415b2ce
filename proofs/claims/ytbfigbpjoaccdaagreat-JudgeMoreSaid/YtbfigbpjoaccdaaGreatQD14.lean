/- Contracts and laws (Rates, Tk). -/
import Derived.Lib.Hide
import Derived.Test.YtbfigbpjoaccdaaGreatQD12
import Derived.Test.YtbfigbpjoaccdaaGreatQD13
namespace Go.Proofs.YtbfigbpjoaccdaaGreat
set_option linter.unusedVariables false
set_option linter.unusedSimpArgs false

def sumR (f : Nat → Nat) : Nat → Nat
  | 0 => 0
  | n + 1 => sumR f n + f n
theorem sumR_congr {f g : Nat → Nat} : ∀ {n : Nat}, (∀ i, i < n → f i = g i) → sumR f n = sumR g n
  | 0, _ => rfl
  | n + 1, h => by simp only [sumR]; rw [sumR_congr fun i hi => h i (by omega), h n (by omega)]
theorem sumR_add (f g : Nat → Nat) : ∀ n, sumR (fun i => f i + g i) n = sumR f n + sumR g n
  | 0 => rfl
  | n + 1 => by simp only [sumR]; rw [sumR_add f g n]; omega
theorem sumR_mul (c : Nat) (f : Nat → Nat) : ∀ n, sumR (fun i => f i * c) n = sumR f n * c
  | 0 => by simp [sumR]
  | n + 1 => by simp only [sumR]; rw [sumR_mul c f n, Nat.add_mul]
theorem sumR_head (f : Nat → Nat) : ∀ n, sumR f (n + 1) = f 0 + sumR (fun i => f (i + 1)) n
  | 0 => by simp [sumR]
  | n + 1 => by
    rw [sumR, sumR_head f n]
    simp only [sumR]
    omega
theorem sumR_mono (f : Nat → Nat) {m n : Nat} (h : m ≤ n) : sumR f m ≤ sumR f n := by
  induction n with
  | zero => have : m = 0 := by omega
            subst this; exact Nat.le_refl _
  | succ n ih =>
    by_cases e : m = n + 1
    · subst e; exact Nat.le_refl _
    · have := ih (by omega)
      simp only [sumR]
      omega

/-- In how many ways k of n can be chosen. -/
def binom : Nat → Nat → Nat
  | _, 0 => 1
  | 0, _ + 1 => 0
  | n + 1, k + 1 => binom n k + binom n (k + 1)
theorem binom_zero (n : Nat) : binom n 0 = 1 := by cases n <;> rfl
theorem binom_over : ∀ (n k : Nat), n < k → binom n k = 0
  | n, 0, h => by omega
  | 0, k + 1, _ => rfl
  | n + 1, k + 1, h => by rw [binom, binom_over n k (by omega), binom_over n (k + 1) (by omega)]
theorem binom_self : ∀ (n : Nat), binom n n = 1
  | 0 => rfl
  | n + 1 => by rw [binom, binom_self n, binom_over n (n + 1) (by omega)]

/-- The weight of h hits in m trials, from trial to trial; p and q are the weights of a hit and of none. -/
def distR (p q : Nat) : Nat → Nat → Nat
  | 0, 0 => 1
  | 0, _ + 1 => 0
  | m + 1, 0 => distR p q m 0 * q
  | m + 1, h + 1 => distR p q m (h + 1) * q + distR p q m h * p
theorem distR_zero (p q : Nat) : ∀ m, distR p q m 0 = q ^ m
  | 0 => rfl
  | m + 1 => by rw [distR, distR_zero p q m, Nat.pow_succ]
theorem distR_binom (p q : Nat) : ∀ (m h : Nat), distR p q m h = binom m h * p ^ h * q ^ (m - h)
  | m, 0 => by rw [distR_zero, binom_zero]; simp
  | 0, h + 1 => by simp [distR, binom]
  | m + 1, h + 1 => by
    rw [distR, distR_binom p q m (h + 1), distR_binom p q m h, binom]
    by_cases hh : h + 1 ≤ m
    · obtain ⟨d, rfl⟩ : ∃ d, m = h + 1 + d := ⟨m - (h + 1), by omega⟩
      rw [show h + 1 + d - (h + 1) = d by omega, show h + 1 + d - h = d + 1 by omega, show h + 1 + d + 1 - (h + 1) = d + 1 by omega]
      rw [Nat.pow_succ p h, Nat.pow_succ q d, Nat.add_mul, Nat.add_mul]
      have e1 : binom (h + 1 + d) (h + 1) * (p ^ h * p) * q ^ d * q = binom (h + 1 + d) (h + 1) * (p ^ h * p) * (q ^ d * q) := by rw [Nat.mul_assoc _ (q ^ d) q]
      have e2 : binom (h + 1 + d) h * p ^ h * (q ^ d * q) * p = binom (h + 1 + d) h * (p ^ h * p) * (q ^ d * q) := by
        rw [Nat.mul_assoc (binom (h + 1 + d) h * p ^ h), Nat.mul_comm (q ^ d * q) p, ← Nat.mul_assoc, Nat.mul_assoc (binom (h + 1 + d) h) (p ^ h) p]
      omega
    · rw [binom_over m (h + 1) (by omega)]
      have : m - h = m + 1 - (h + 1) := by omega
      rw [← this, Nat.pow_succ]
      simp only [Nat.zero_mul, Nat.zero_add]
      by_cases e : m = h
      · subst e; simp [binom_self]
      · rw [binom_over m h (by omega)]; simp

/-- The weight of at most k hits in n trials. -/
def fewR (p q n k : Nat) : Nat := sumR (distR p q n) (k + 1)
theorem fewR_zero (p q k : Nat) : fewR p q 0 k = 1 := by
  have key : ∀ k, sumR (fun i => distR p q 0 (i + 1)) k = 0 := fun k => by
    induction k with
    | zero => rfl
    | succ k ih => exact ih
  unfold fewR
  rw [sumR_head, key]; rfl
/-- One more trial: no hit, or a hit and one less before. -/
theorem fewR_succ (p q n k : Nat) : fewR p q (n + 1) k = fewR p q n k * q + (match k with | 0 => 0 | k' + 1 => fewR p q n k') * p := by
  cases k with
  | zero => simp [fewR, sumR, distR]
  | succ k =>
    have e : fewR p q (n + 1) (k + 1) = distR p q (n + 1) 0 + sumR (fun i => distR p q (n + 1) (i + 1)) (k + 1) := sumR_head _ _
    have e2 : fewR p q n (k + 1) = distR p q n 0 + sumR (fun i => distR p q n (i + 1)) (k + 1) := sumR_head _ _
    rw [e, e2]
    simp only [distR]
    rw [sumR_add, sumR_mul, sumR_mul, Nat.add_mul]
    show _ = _ + _ + sumR (distR p q n) (k + 1) * p
    omega
theorem fewR_le (p q n : Nat) {k l : Nat} (h : k ≤ l) : fewR p q n k ≤ fewR p q n l := sumR_mono _ (by omega)
/-- The chance of at most k hits does not grow with the rate. -/
theorem fewR_falls (B : Nat) : ∀ (n k j : Nat), j < B → fewR (j + 1) (B - (j + 1)) n k ≤ fewR j (B - j) n k
  | 0, k, j, _ => by rw [fewR_zero, fewR_zero]; exact Nat.le_refl _
  | n + 1, k, j, hj => by
    obtain ⟨d, hd⟩ : ∃ d, B - (j + 1) = d := ⟨_, rfl⟩
    have hd2 : B - j = d + 1 := by omega
    have h1 := fewR_falls B n k j hj
    rw [fewR_succ, fewR_succ, hd, hd2]
    rw [hd, hd2] at h1
    cases k with
    | zero =>
      simp only [Nat.zero_mul, Nat.add_zero]
      have := Nat.mul_le_mul_right d h1
      rw [Nat.mul_add]
      omega
    | succ k =>
      have h2 := fewR_falls B n k j hj
      rw [hd, hd2] at h2
      have h3 := fewR_le j (d + 1) n (show k ≤ k + 1 by omega)
      have m1 := Nat.mul_le_mul_right d h1
      have m2 := Nat.mul_le_mul_right (j + 1) h2
      simp only [Nat.mul_add, Nat.mul_one] at m2 ⊢
      omega
theorem fewR_falls_le {B n k i j : Nat} (hij : i ≤ j) (hj : j ≤ B) : fewR j (B - j) n k ≤ fewR i (B - i) n k := by
  induction j with
  | zero => have : i = 0 := by omega
            subst this; exact Nat.le_refl _
  | succ j ih =>
    by_cases e : i = j + 1
    · subst e; exact Nat.le_refl _
    · exact Nat.le_trans (fewR_falls B n k j (by omega)) (ih (by omega) (by omega))

/-- Whether the chance of at most k hits of n, for the rate j / 256, is at most num / den. -/
def fewB (n k j num den : Nat) : Bool := decide (fewR j (256 - j) n k * den ≤ num * 256 ^ n)
theorem fewB_rate {n k i j num den : Nat} (hij : i ≤ j) (hj : j ≤ 256) (h : fewB n k i num den = true) : fewB n k j num den = true := by
  unfold fewB at h ⊢
  rw [decide_eq_true_eq] at h ⊢
  exact Nat.le_trans (Nat.mul_le_mul_right den (fewR_falls_le hij hj)) h
/-- The least rate for which it is; 256 if there is none below. -/
def boundTo (f : Nat → Bool) : Nat → Nat
  | 0 => 256
  | m + 1 => if f (256 - (m + 1)) = true then 256 - (m + 1) else boundTo f m
def boundR (n k num den : Nat) : Nat := boundTo (fun j => fewB n k j num den) 256
theorem boundTo_spec {f : Nat → Bool} : ∀ {m : Nat}, m ≤ 256 → (∀ j, 256 - m ≤ j → j < boundTo f m → f j = false) ∧ 256 - m ≤ boundTo f m ∧ boundTo f m ≤ 256 ∧ (boundTo f m < 256 → f (boundTo f m) = true)
  | 0, _ => ⟨fun j h1 h2 => by simp [boundTo] at h2; omega, by simp [boundTo], by simp [boundTo], by simp [boundTo]⟩
  | m + 1, hm => by
    have ih := boundTo_spec (f := f) (m := m) (by omega)
    rw [boundTo]
    by_cases h : f (256 - (m + 1)) = true
    · rw [if_pos h]
      exact ⟨fun j h1 h2 => by omega, Nat.le_refl _, by omega, fun _ => h⟩
    · rw [if_neg h]
      refine ⟨fun j h1 h2 => ?_, by omega, ih.2.2.1, ih.2.2.2⟩
      by_cases e : j = 256 - (m + 1)
      · subst e; simpa using h
      · exact ih.1 j (by omega) h2
theorem boundR_spec (n k num den : Nat) : (∀ j, j < boundR n k num den → fewB n k j num den = false) ∧ boundR n k num den ≤ 256 ∧ (boundR n k num den < 256 → fewB n k (boundR n k num den) num den = true) := by
  have h := boundTo_spec (f := fun j => fewB n k j num den) (m := 256) (Nat.le_refl _)
  exact ⟨fun j hj => h.1 j (by omega) hj, h.2.2.1, h.2.2.2⟩
/-- What every search for it ends in. -/
theorem boundR_unique {n k num den b : Nat} (hb : b ≤ 256) (h1 : ∀ j, j < b → fewB n k j num den = false) (h2 : b < 256 → fewB n k b num den = true) : b = boundR n k num den := by
  obtain ⟨s1, s2, s3⟩ := boundR_spec n k num den
  rcases Nat.lt_trichotomy b (boundR n k num den) with h | h | h
  · have := s1 b h; rw [h2 (by omega)] at this; cases this
  · exact h
  · have := h1 _ h; rw [s3 (by omega)] at this; cases this

/-! ### Sequential tests -/

/-- Whether a test with the rates p and q (of 256) raises the alarm with h hits and m rounds without. -/
def raiseB (p q num den h m : Nat) : Bool := decide (den * p ^ h * (256 - p) ^ m ≤ num * q ^ h * (256 - q) ^ m)
end Go.Proofs.YtbfigbpjoaccdaaGreat

namespace Go.Proofs.YtbfigbpjoaccdaaGreat
open Go Go.RowKit Go.Shelf
set_option linter.unusedVariables false
set_option linter.unusedSimpArgs false

theorem LgR.one {W : World} {b x : Nat} (h : Blk W b 140 #[.int .u64 (x : Int)]) (hx : x < two64) (h0 : x ≠ 0) : LgR W (some ⟨b, 0, none⟩) [x] x where
  rd := .inr ⟨b, 0, rfl, h.lt, fun i hi => by
    have : i = 0 := by simp at hi; exact hi
    subst this
    exact h.cell rfl⟩
  words := fun y hy => by simp at hy; subst hy; exact hx
  trim := fun i hi => by
    have : i = 0 := by simp at hi; exact hi
    subst this
    exact h0
  val := by simp [valB]

set_option maxRecDepth 100000 in
set_option maxHeartbeats 2000000 in
theorem jside_any (rate f h r : Nat) (hrate : rate ≤ 256) (hf : f ≤ 1073741824) (hf0 : f ≠ 0) (hh : h ≤ r) (hr : r ≤ 1000) (bh br : Nat) (w : World) (kh : w.cell? ⟨bh, 0, none⟩ = some (.int .i64 (h : Int))) (kr : w.cell? ⟨br, 0, none⟩ = some (.int .i64 (r : Int))) (hbh : bh < w.heap.size) (hbr : br < w.heap.size) :
    Calls Tryz.prog 113 (#[.int .i64 (rate : Int), .int .i64 (f : Int)] ++ #[.pointer (some ⟨bh, 0, none⟩), .pointer (some ⟨br, 0, none⟩)]) w (RetLg w (f * rate ^ h * (256 - rate) ^ (r - h)) (1 + h + (r - h))) := by
  obtain ⟨q, hq⟩ : ∃ q, 256 - rate = q := ⟨_, rfl⟩
  obtain ⟨d, hd⟩ : ∃ d, r - h = d := ⟨_, rfl⟩
  rw [hq, hd]
  have hw1 : IntKind.u64.wrap (f : Int) = (f : Int) := by rw [IntKind.wrap_u64]; omega
  have hw2 : IntKind.u64.wrap (rate : Int) = (rate : Int) := by rw [IntKind.wrap_u64]; omega
  have hw3 : (256 : Int) - (rate : Int) = (q : Int) := by omega
  have hw4 : (r : Int) - (h : Int) = (d : Int) := by omega
  have hw5 : IntKind.u64.wrap (q : Int) = (q : Int) := by rw [IntKind.wrap_u64]; omega
  have hq2 : q ≤ 256 := by omega
  have hd2 : d ≤ 1000 := by omega
  have hrH := Lib.hid hrate
  have hfH := Lib.hid hf
  have hf0H := Lib.hid hf0
  have hhH := Lib.hid (show h ≤ 1000 by omega)
  clear hq hd hrate hf hf0 hh hr
  simp only [List.append_toArray, List.cons_append, List.nil_append]
  go_enter Tryz.func113, Tryz.ntmps113
  go_wp2_with fail
  have hS := (Below.refl w.heap.size w).drew
  refine plain_region (fun W' => Below w.heap.size w W') 15 15 (by kernel_rfl) rfl ?_
  simp only [Array.replicate_succ, Array.replicate_zero, List.push_toArray, List.nil_append, List.cons_append]
  refine take_op 0 (v := ?rv0) rfl (by kernel_rfl) (fun _ _ _ h => h) (by rfl) hS (fun w' hS' => ?ry0) ?rz0
  case ry0 =>
    go_simp
    rfl
  simp only [List.setIfInBounds_toArray, List.set_cons_zero, List.set_cons_succ]
  refine take_op 1 (v := ?rv1) rfl (by kernel_rfl) (fun _ _ _ h => h) (by rfl) hS (fun w' hS' => ?ry1) ?rz1
  case ry1 =>
    go_simp
    rfl
  simp only [List.setIfInBounds_toArray, List.set_cons_zero, List.set_cons_succ]
  refine take_op 3 (v := ?rv3) rfl (by kernel_rfl) (fun _ _ _ h => h) (by rfl) hS (fun w' hS' => ?ry3) ?rz3
  case ry3 =>
    go_simp
    rfl
  simp only [List.setIfInBounds_toArray, List.set_cons_zero, List.set_cons_succ]
  refine take_op 4 (v := ?rv4) rfl (by kernel_rfl) (fun _ _ _ h => h) (by rfl) hS (fun w' hS' => ?ry4) ?rz4
  case ry4 =>
    go_simp
    rfl
  simp only [List.setIfInBounds_toArray, List.set_cons_zero, List.set_cons_succ]
  refine take_op 5 (v := ?rv5) rfl (by kernel_rfl) (fun _ _ _ h => h) (by rfl) hS (fun w' hS' => ?ry5) ?rz5
  case ry5 =>
    have z0 := (hS'.cell (p := ⟨bh, 0, none⟩) hbh).trans kh
    have z1 := (hS'.cell (p := ⟨br, 0, none⟩) hbr).trans kr
    clear hS'
    go_simp
    rfl
  simp only [List.setIfInBounds_toArray, List.set_cons_zero, List.set_cons_succ]
  refine take_op 7 (v := ?rv7) rfl (by kernel_rfl) (fun _ _ _ h => h) (by rfl) hS (fun w' hS' => ?ry7) ?rz7
  case ry7 =>
    go_simp
    rfl
  simp only [List.setIfInBounds_toArray, List.set_cons_zero, List.set_cons_succ]
  refine take_op 8 (v := ?rv8) rfl (by kernel_rfl) (fun _ _ _ h => h) (by rfl) hS (fun w' hS' => ?ry8) ?rz8
  case ry8 =>
    go_simp
    try go_ints
    rfl
  simp only [List.setIfInBounds_toArray, List.set_cons_zero, List.set_cons_succ]
  refine take_op 9 (v := ?rv9) rfl (by kernel_rfl) (fun _ _ _ h => h) (by rfl) hS (fun w' hS' => ?ry9) ?rz9
  case ry9 =>
    go_simp
    rfl
  simp only [List.setIfInBounds_toArray, List.set_cons_zero, List.set_cons_succ]
  refine take_op 10 (v := ?rv10) rfl (by kernel_rfl) (fun _ _ _ h => h) (by rfl) hS (fun w' hS' => ?ry10) ?rz10
  case ry10 =>
    have z0 := (hS'.cell (p := ⟨bh, 0, none⟩) hbh).trans kh
    have z1 := (hS'.cell (p := ⟨br, 0, none⟩) hbr).trans kr
    clear hS'
    go_simp
    rfl
  simp only [List.setIfInBounds_toArray, List.set_cons_zero, List.set_cons_succ]
  refine take_op 11 (v := ?rv11) rfl (by kernel_rfl) (fun _ _ _ h => h) (by rfl) hS (fun w' hS' => ?ry11) ?rz11
  case ry11 =>
    have z0 := (hS'.cell (p := ⟨bh, 0, none⟩) hbh).trans kh
    have z1 := (hS'.cell (p := ⟨br, 0, none⟩) hbr).trans kr
    clear hS'
    go_simp
    rfl
  simp only [List.setIfInBounds_toArray, List.set_cons_zero, List.set_cons_succ]
  refine take_op 12 (v := ?rv12) rfl (by kernel_rfl) (fun _ _ _ h => h) (by rfl) hS (fun w' hS' => ?ry12) ?rz12
  case ry12 =>
    go_simp
    try go_ints
    rfl
  simp only [List.setIfInBounds_toArray, List.set_cons_zero, List.set_cons_succ]
  refine step_op 2 (by kernel_rfl) rfl (fun K hK => ?_)
  rw [if_pos (by rfl)]
  have kx := Blk.new w.drew 140 #[.int .u64 (f : Int)]
  have hS2 : Below w.heap.size w (w.drew.alloc (.cells #[.int .u64 (f : Int)] 140)) := hS.alloc (Nat.le_refl _) _
  go_simp
  refine hK.out _ _ (fun h => hS2) ?_
  clear hK K
  try simp only [Act.put, List.setIfInBounds_toArray, List.set_cons_zero, List.set_cons_succ]
  refine step_op 6 (by kernel_rfl) rfl (fun K hK => ?_)
  rw [if_pos (by rfl)]
  go_simp
  refine (power_any (some ⟨w.heap.size, 0, none⟩) 1 1 [f] f rate h rfl (by have := hhH.out; omega) (by have := hrH.out; rw [lt_two64]; omega) _ (LgR.one kx (by have := hfH.out; rw [lt_two64]; omega) hf0H.out)).mono ?_
  rintro e W3 ⟨ys, a2, c2, rfl, hr2, hl2, hb2⟩
  have hS3 := hS2.trans (hb2.mono hS2.size)
  obtain ⟨l2, hl2'⟩ : ∃ l, ys.length = l := ⟨_, rfl⟩
  rw [hl2'] at hl2 ⊢
  have hl2H := Lib.hid hl2'
  clear hl2' hb2 kx hS2
  refine hK.out _ _ (fun h => hS3) ?_
  clear hK K
  try simp only [Act.put, List.setIfInBounds_toArray, List.set_cons_zero, List.set_cons_succ]
  refine step_op 13 (by kernel_rfl) rfl (fun K hK => ?_)
  rw [if_pos (by rfl)]
  go_simp
  refine (power_any a2 c2 l2 ys (f * rate ^ h) q d hl2H.out (by have := hhH.out; omega) (by rw [lt_two64]; omega) _ hr2).mono ?_
  rintro e W4 ⟨zs, a3, c3, rfl, hr3, hl3, hb3⟩
  have hS4 := hS3.trans (hb3.mono hS3.size)
  refine hK.out _ _ (fun h => hS4) ?_
  clear hK K
  try simp only [Act.put, List.setIfInBounds_toArray, List.set_cons_zero, List.set_cons_succ]
  refine take_op 14 (v := ?rv14) rfl (by kernel_rfl) (fun _ _ _ h => h) (by rfl) hS4 (fun w' hS' => ?ry14) ?rz14
  case ry14 =>
    go_simp
    rfl
  simp only [List.setIfInBounds_toArray, List.set_cons_zero, List.set_cons_succ]
  refine done_ops (by kernel_rfl) ?_
  go_wp2_with fail
  go_ret
  exact ⟨zs, a3, c3, rfl, hr3, by omega, hS4⟩

abbrev tsv (p q num den : Int) : Value := .agg #[.int .i64 p, .int .i64 q, .int .i64 num, .int .i64 den]

set_option maxRecDepth 100000 in
set_option maxHeartbeats 2000000 in
theorem raises_any (p q num den h r : Nat) (hp : p ≤ 256) (hq : q ≤ 256) (hn : num ≤ 1073741824) (hn0 : num ≠ 0) (hd : den ≤ 1073741824) (hd0 : den ≠ 0) (hh : h ≤ r) (hr : r ≤ 1000) (v : Bool) (hv : raiseB p q num den h (r - h) = v) (w : World) :
    Calls Tryz.prog 74 #[tsv p q num den, .int .i64 (h : Int), .int .i64 (r : Int)] w fun e w' => e = .returned (.bool v) ∧ Below w.heap.size w w' := by
  have k3 := ((Blk.new w 67 #[.int .i64 (p : Int), .int .i64 (q : Int), .int .i64 (num : Int), .int .i64 (den : Int)]).alloc (.cells #[.int .i64 (h : Int)] 3)).alloc (.cells #[.int .i64 (r : Int)] 3)
  have k4 := by simpa only [World.size_alloc] using (Blk.new (w.alloc (.cells #[.int .i64 (p : Int), .int .i64 (q : Int), .int .i64 (num : Int), .int .i64 (den : Int)] 67)) 3 #[.int .i64 (h : Int)]).alloc (.cells #[.int .i64 (r : Int)] 3)
  have k5 := by simpa only [World.size_alloc] using Blk.new ((w.alloc (.cells #[.int .i64 (p : Int), .int .i64 (q : Int), .int .i64 (num : Int), .int .i64 (den : Int)] 67)).alloc (.cells #[.int .i64 (h : Int)] 3)) 3 #[.int .i64 (r : Int)]
  have hB := jwd_al (jwd_al (jwd_al (Below.refl _ w) (.cells #[.int .i64 (p : Int), .int .i64 (q : Int), .int .i64 (num : Int), .int .i64 (den : Int)] 67)) (.cells #[.int .i64 (h : Int)] 3)) (.cells #[.int .i64 (r : Int)] 3)
  obtain ⟨W0, hW0⟩ : ∃ W0, ((w.alloc (.cells #[.int .i64 (p : Int), .int .i64 (q : Int), .int .i64 (num : Int), .int .i64 (den : Int)] 67)).alloc (.cells #[.int .i64 (h : Int)] 3)).alloc (.cells #[.int .i64 (r : Int)] 3) = W0 := ⟨_, rfl⟩
  rw [hW0] at k3 k4 k5 hB
  have hs1 := fun (W : World) (hb : Below W0.heap.size W0 W) => jside_any p den h r hp hd hd0 hh hr (w.heap.size + 1) (w.heap.size + 1 + 1) W ((k4.below hb k4.lt).cell rfl) ((k5.below hb k5.lt).cell rfl) (k4.below hb k4.lt).lt (k5.below hb k5.lt).lt
  have hs2 := fun (W : World) (hb : Below W0.heap.size W0 W) => jside_any q num h r hq hn hn0 hh hr (w.heap.size + 1) (w.heap.size + 1 + 1) W ((k4.below hb k4.lt).cell rfl) ((k5.below hb k5.lt).cell rfl) (k4.below hb k4.lt).lt (k5.below hb k5.lt).lt
  simp only [List.append_toArray, List.cons_append, List.nil_append] at hs1 hs2
  unfold raiseB at hv
  obtain ⟨V1, hV1⟩ : ∃ V, den * p ^ h * (256 - p) ^ (r - h) = V := ⟨_, rfl⟩
  obtain ⟨V2, hV2⟩ : ∃ V, num * q ^ h * (256 - q) ^ (r - h) = V := ⟨_, rfl⟩
  rw [hV1] at hv hs1
  rw [hV2] at hv hs2
  have hlen : 1 + h + (r - h) ≤ 100000 := by omega
  obtain ⟨L, hL⟩ : ∃ L, 1 + h + (r - h) = L := ⟨_, rfl⟩
  rw [hL] at hs1 hs2 hlen
  have hs1H := Lib.hid hs1
  have hs2H := Lib.hid hs2
  have hvH := Lib.hid hv
  have hWH := Lib.hid hW0
  have hS := (Below.refl W0.heap.size W0).drew
  clear hv hs1 hs2 hV1 hV2 hW0 hp hq hn hd hn0 hd0 k4 k5 hL hh hr
  go_enter Tryz.func74, Tryz.ntmps74
  go_wp2_with fail
  rw [hWH.out]
  refine plain_region (fun W' => Below W0.heap.size W0 W') 16 16 (by kernel_rfl) rfl ?_
  simp only [Array.replicate_succ, Array.replicate_zero, List.push_toArray, List.nil_append, List.cons_append]
  refine take_op 0 (v := ?sv0) rfl (by kernel_rfl) (fun _ _ _ h => h) (by rfl) hS (fun w' hS' => ?sy0) ?sz0
  case sy0 =>
    go_simp
    rfl
  simp only [List.setIfInBounds_toArray, List.set_cons_zero, List.set_cons_succ]
  refine take_op 1 (v := ?sv1) rfl (by kernel_rfl) (fun _ _ _ h => h) (by rfl) hS (fun w' hS' => ?sy1) ?sz1
  case sy1 =>
    go_simp
    rfl
  simp only [List.setIfInBounds_toArray, List.set_cons_zero, List.set_cons_succ]
  refine take_op 2 (v := ?sv2) rfl (by kernel_rfl) (fun _ _ _ h => h) (by rfl) hS (fun w' hS' => ?sy2) ?sz2
  case sy2 =>
    have z0 := (k3.below hS' k3.lt).cell (i := 0) rfl
    have z1 := (k3.below hS' k3.lt).cell (i := 1) rfl
    have z2 := (k3.below hS' k3.lt).cell (i := 2) rfl
    have z3 := (k3.below hS' k3.lt).cell (i := 3) rfl
    clear hS'
    go_simp
    rfl
  simp only [List.setIfInBounds_toArray, List.set_cons_zero, List.set_cons_succ]
  refine take_op 3 (v := ?sv3) rfl (by kernel_rfl) (fun _ _ _ h => h) (by rfl) hS (fun w' hS' => ?sy3) ?sz3
  case sy3 =>
    go_simp
    rfl
  simp only [List.setIfInBounds_toArray, List.set_cons_zero, List.set_cons_succ]
  refine take_op 4 (v := ?sv4) rfl (by kernel_rfl) (fun _ _ _ h => h) (by rfl) hS (fun w' hS' => ?sy4) ?sz4
  case sy4 =>
    go_simp
    rfl
  simp only [List.setIfInBounds_toArray, List.set_cons_zero, List.set_cons_succ]
  refine take_op 5 (v := ?sv5) rfl (by kernel_rfl) (fun _ _ _ h => h) (by rfl) hS (fun w' hS' => ?sy5) ?sz5
  case sy5 =>
    have z0 := (k3.below hS' k3.lt).cell (i := 0) rfl
    have z1 := (k3.below hS' k3.lt).cell (i := 1) rfl
    have z2 := (k3.below hS' k3.lt).cell (i := 2) rfl
    have z3 := (k3.below hS' k3.lt).cell (i := 3) rfl
    clear hS'
    go_simp
    rfl
  simp only [List.setIfInBounds_toArray, List.set_cons_zero, List.set_cons_succ]
  refine take_op 7 (v := ?sv7) rfl (by kernel_rfl) (fun _ _ _ h => h) (by rfl) hS (fun w' hS' => ?sy7) ?sz7
  case sy7 =>
    go_simp
    rfl
  simp only [List.setIfInBounds_toArray, List.set_cons_zero, List.set_cons_succ]
  refine take_op 8 (v := ?sv8) rfl (by kernel_rfl) (fun _ _ _ h => h) (by rfl) hS (fun w' hS' => ?sy8) ?sz8
  case sy8 =>
    go_simp
    rfl
  simp only [List.setIfInBounds_toArray, List.set_cons_zero, List.set_cons_succ]
  refine take_op 9 (v := ?sv9) rfl (by kernel_rfl) (fun _ _ _ h => h) (by rfl) hS (fun w' hS' => ?sy9) ?sz9
  case sy9 =>
    have z0 := (k3.below hS' k3.lt).cell (i := 0) rfl
    have z1 := (k3.below hS' k3.lt).cell (i := 1) rfl
    have z2 := (k3.below hS' k3.lt).cell (i := 2) rfl
    have z3 := (k3.below hS' k3.lt).cell (i := 3) rfl
    clear hS'
    go_simp
    rfl
  simp only [List.setIfInBounds_toArray, List.set_cons_zero, List.set_cons_succ]
  refine take_op 10 (v := ?sv10) rfl (by kernel_rfl) (fun _ _ _ h => h) (by rfl) hS (fun w' hS' => ?sy10) ?sz10
  case sy10 =>
    go_simp
    rfl
  simp only [List.setIfInBounds_toArray, List.set_cons_zero, List.set_cons_succ]
  refine take_op 11 (v := ?sv11) rfl (by kernel_rfl) (fun _ _ _ h => h) (by rfl) hS (fun w' hS' => ?sy11) ?sz11
  case sy11 =>
    go_simp
    rfl
  simp only [List.setIfInBounds_toArray, List.set_cons_zero, List.set_cons_succ]
  refine take_op 12 (v := ?sv12) rfl (by kernel_rfl) (fun _ _ _ h => h) (by rfl) hS (fun w' hS' => ?sy12) ?sz12
  case sy12 =>
    have z0 := (k3.below hS' k3.lt).cell (i := 0) rfl
    have z1 := (k3.below hS' k3.lt).cell (i := 1) rfl
    have z2 := (k3.below hS' k3.lt).cell (i := 2) rfl
    have z3 := (k3.below hS' k3.lt).cell (i := 3) rfl
    clear hS'
    go_simp
    rfl
  simp only [List.setIfInBounds_toArray, List.set_cons_zero, List.set_cons_succ]
  refine step_op 6 (by kernel_rfl) rfl (fun K hK => ?_)
  rw [if_pos (by rfl)]
  go_simp
  refine (hs1H.out _ hS).mono ?_
  rintro e W3 ⟨ys, a2, c2, rfl, hr2, hl2, hb2⟩
  have hS3 := hS.trans (hb2.mono hS.size)
  obtain ⟨l2, hl2'⟩ : ∃ l, ys.length = l := ⟨_, rfl⟩
  rw [hl2'] at hl2 ⊢
  have hl2H := Lib.hid hl2'
  clear hl2' hb2
  refine hK.out _ _ (fun h => hS3) ?_
  clear hK K
  try simp only [Act.put, List.setIfInBounds_toArray, List.set_cons_zero, List.set_cons_succ]
  refine step_op 13 (by kernel_rfl) rfl (fun K hK => ?_)
  rw [if_pos (by rfl)]
  go_simp
  refine (hs2H.out _ hS3).mono ?_
  rintro e W4 ⟨zs, a3, c3, rfl, hr3, hl3, hb3⟩
  have hS4 := hS3.trans (hb3.mono hS3.size)
  have hr2' := hr2.later hb3
  obtain ⟨l3, hl3'⟩ : ∃ l, zs.length = l := ⟨_, rfl⟩
  rw [hl3'] at hl3 ⊢
  have hl3H := Lib.hid hl3'
  clear hl3' hb3 hr2
  refine hK.out _ _ (fun h => hS4) ?_
  clear hK K
  try simp only [Act.put, List.setIfInBounds_toArray, List.set_cons_zero, List.set_cons_succ]
  refine step_op 14 (by kernel_rfl) rfl (fun K hK => ?_)
  rw [if_pos (by rfl)]
  go_simp
  refine (atMost_any a2 a3 c2 c3 l2 l3 ys zs V1 V2 v hvH.out hl2H.out hl3H.out (by omega) _ hr2' hr3).mono ?_
  rintro e W5 ⟨rfl, hb4⟩
  have hS5 := hS4.trans (hb4.mono hS4.size)
  refine hK.out _ _ (fun h => hS5) ?_
  clear hK K
  try simp only [Act.put, List.setIfInBounds_toArray, List.set_cons_zero, List.set_cons_succ]
  refine take_op 15 (v := ?sv15) rfl (by kernel_rfl) (fun _ _ _ h => h) (by rfl) hS5 (fun w' hS' => ?sy15) ?sz15
  case sy15 =>
    go_simp
    rfl
  simp only [List.setIfInBounds_toArray, List.set_cons_zero, List.set_cons_succ]
  refine done_ops (by kernel_rfl) ?_
  go_wp2_with fail
  go_ret
  exact ⟨rfl, hB.trans (hS5.mono hB.size)⟩

/-- Whether a sequential test is valid. -/
def testB (p q num den : Int) : Bool := decide (1 ≤ p ∧ p < q ∧ q ≤ 255) && limB num den
theorem testB_no {p q num den : Int} (h : ¬ (1 ≤ p ∧ p < q ∧ q ≤ 255) ∨ limB num den = false) : testB p q num den = false := by
  unfold testB
  rcases h with h | h
  · rw [show decide (1 ≤ p ∧ p < q ∧ q ≤ 255) = false by simpa using h]; rfl
  · rw [h, Bool.and_false]
theorem testB_yes {p q num den : Int} (h1 : 1 ≤ p) (h2 : p < q) (h3 : q ≤ 255) : testB p q num den = limB num den := by
  unfold testB
  rw [show decide (1 ≤ p ∧ p < q ∧ q ≤ 255) = true by simp only [decide_eq_true_eq]; omega]; rfl
theorem testB_true {p q num den : Int} (h : testB p q num den = true) : (1 ≤ p ∧ p < q ∧ q ≤ 255) ∧ 0 < num ∧ num < den ∧ den ≤ 1073741824 := by
  unfold testB at h
  simp only [Bool.and_eq_true, decide_eq_true_eq] at h
  exact ⟨h.1, limB_true h.2⟩

theorem tk_two (lo hi p q : Int) (v : Bool) (hv : decide ((lo ≤ p ∧ p ≤ hi) ∧ lo ≤ q ∧ q ≤ hi) = v) (b c : Nat) (w : World) (t : TypeId) (h : Blk w b t #[.int .i64 p, .int .i64 q]) :
    Calls Tryz.prog 48 #[.int .i64 lo, .int .i64 hi, .slice (some ⟨b, 0, none⟩) 2 c] w fun e w' => e = .returned (.bool v) ∧ w = w' := by
  have hrd : Rd w.heap.size w (some ⟨b, 0, none⟩) [p, q] := .inr ⟨b, 0, rfl, h.lt, fun i hi => by
    have : i = 0 ∨ i = 1 := by simp at hi; omega
    rcases this with rfl | rfl
    · exact h.cell rfl
    · exact h.cell rfl⟩
  have := jwithin_any lo hi (some ⟨b, 0, none⟩) c [p, q] w (by simp) hrd
  rw [show allIn lo hi [p, q] = v by rw [← hv]; simp [allIn, Bool.and_assoc]] at this
  exact this
theorem tk_one (lo hi p : Int) (v : Bool) (hv : decide (lo ≤ p ∧ p ≤ hi) = v) (b c : Nat) (w : World) (t : TypeId) (h : Blk w b t #[.int .i64 p]) :
    Calls Tryz.prog 48 #[.int .i64 lo, .int .i64 hi, .slice (some ⟨b, 0, none⟩) 1 c] w fun e w' => e = .returned (.bool v) ∧ w = w' := by
  have hrd : Rd w.heap.size w (some ⟨b, 0, none⟩) [p] := .inr ⟨b, 0, rfl, h.lt, fun i hi => by
    have : i = 0 := by simp at hi; exact hi
    subst this
    exact h.cell rfl⟩
  have := jwithin_any lo hi (some ⟨b, 0, none⟩) c [p] w (by simp) hrd
  rw [show allIn lo hi [p] = v by rw [← hv]; simp [allIn]] at this
  exact this

set_option maxRecDepth 100000 in
set_option maxHeartbeats 2000000 in
theorem CheckTest_any (p q num den : Int) (hn : (Lit.int .i64 num).wf = true) (hd : (Lit.int .i64 den).wf = true) (v : Bool) (hv : testB p q num den = v) (w : World) :
    Calls Tryz.prog 73 #[tsv p q num den] w fun e w' => e = .returned (.int .i64 (if v = true then 0 else 81)) ∧ Below w.heap.size w w' := by
  have k1 := (Blk.new w 67 #[.int .i64 p, .int .i64 q, .int .i64 num, .int .i64 den]).alloc (.cells #[.int .i64 p, .int .i64 q] 3)
  have k2 := by simpa only [World.size_alloc] using Blk.new (w.alloc (.cells #[.int .i64 p, .int .i64 q, .int .i64 num, .int .i64 den] 67)) 3 #[.int .i64 p, .int .i64 q]
  have hB := jwd_al (jwd_al (Below.refl _ w) (.cells #[.int .i64 p, .int .i64 q, .int .i64 num, .int .i64 den] 67)) (.cells #[.int .i64 p, .int .i64 q] 3)
  by_cases hw : (1 ≤ p ∧ p ≤ 255) ∧ 1 ≤ q ∧ q ≤ 255
  case neg =>
    have hwc := tk_two 1 255 p q false (by simp only [decide_eq_false_iff_not]; exact hw) _ 2 _ _ k2
    have hvf : v = false := by rw [← hv]; exact testB_no (.inl (by omega))
    subst hvf
    have hwcH := Lib.hid hwc
    clear hv hwc hw hn hd k1 k2
    go_enter Tryz.func73, Tryz.ntmps73
    go_wp2_with (go_at_call 48; refine hwcH.out.mono ?_; rintro e w' ⟨rfl, rfl⟩)
    go_ret
    exact ⟨rfl, hB⟩
  have hwc := tk_two 1 255 p q true (by simp only [decide_eq_true_eq]; exact hw) _ 2 _ _ k2
  have hwcH := Lib.hid hwc
  clear hwc k2
  obtain ⟨W1, hW1⟩ : ∃ W, (w.alloc (.cells #[.int .i64 p, .int .i64 q, .int .i64 num, .int .i64 den] 67)).alloc (.cells #[.int .i64 p, .int .i64 q] 3) = W := ⟨_, rfl⟩
  rw [hW1] at k1 hB hwcH
  have hWH := Lib.hid hW1
  have c0 := k1.cell (i := 0) rfl
  have c1 := k1.cell (i := 1) rfl
  have c2 := k1.cell (i := 2) rfl
  have c3 := k1.cell (i := 3) rfl
  clear hW1
  by_cases hpq : q ≤ p
  · have hvf : v = false := by rw [← hv]; exact testB_no (.inl (by omega))
    subst hvf
    clear hv hw hn hd
    go_enter Tryz.func73, Tryz.ntmps73
    go_wp2_with (go_at_call 48; rw [hWH.out]; refine hwcH.out.mono ?_; rintro e w' ⟨rfl, rfl⟩)
    go_ret
    exact ⟨rfl, hB⟩
  rw [testB_yes (by omega) (by omega) (by omega)] at hv
  have hlc := fun W => limit_any num den hn hd W
  rw [hv] at hlc
  have hlcH := Lib.hid hlc
  clear hv hlc hn hd hw
  cases v with
  | true =>
    go_enter Tryz.func73, Tryz.ntmps73
    go_wp2_with (first
      | (go_at_call 48; rw [hWH.out]; refine hwcH.out.mono ?_; rintro e w' ⟨rfl, rfl⟩)
      | (go_at_call 70; refine (hlcH.out _).mono ?_; rintro e W2 ⟨rfl, hb2⟩; have hB2 := hB.trans (hb2.mono hB.size)))
    go_ret
    exact ⟨rfl, hB2⟩
  | false =>
    go_enter Tryz.func73, Tryz.ntmps73
    go_wp2_with (first
      | (go_at_call 48; rw [hWH.out]; refine hwcH.out.mono ?_; rintro e w' ⟨rfl, rfl⟩)
      | (go_at_call 70; refine (hlcH.out _).mono ?_; rintro e W2 ⟨rfl, hb2⟩; have hB2 := hB.trans (hb2.mono hB.size)))
    go_ret
    exact ⟨rfl, hB2⟩

abbrev drv (h r : Int) (a : Bool) : Value := .agg #[.int .i64 h, .int .i64 r, .bool a]
set_option maxHeartbeats 1000000 in
theorem Start_any (w : World) : Calls Tryz.prog 42 #[] w fun e w' => e = .returned (drv 0 0 false) ∧ Below w.heap.size w w' := by
  go_enter Tryz.func42, Tryz.ntmps42
  go_wp2_with fail
  exact bodyPost_ret (v := drv 0 0 false) (by simp [results, Tryz.results42, go_sem]) rfl ⟨rfl, jwd_al (Below.refl _ _) _⟩

/-- The state after one more round, or an error. -/
def takeS (p q num den h r : Int) (al hit : Bool) : (Int × Int × Bool) × Int :=
  if testB p q num den = false then ((0, 0, false), 81)
  else if ¬ ((0 ≤ r ∧ r ≤ 500) ∧ 0 ≤ h ∧ h ≤ r) then ((0, 0, false), 2)
  else if r = 500 then ((0, 0, false), 9)
  else ((if hit = true then h + 1 else h, r + 1, al || raiseB p.toNat q.toNat num.toNat den.toNat (if hit = true then h + 1 else h).toNat ((r + 1).toNat - (if hit = true then h + 1 else h).toNat)), 0)
abbrev tkv (x : (Int × Int × Bool) × Int) : Value := .tuple #[drv x.1.1 x.1.2.1 x.1.2.2, .int .i64 x.2]

set_option maxRecDepth 100000 in
set_option maxHeartbeats 4000000 in
theorem Take_any (p q num den h r : Int) (al hit : Bool) (hn : (Lit.int .i64 num).wf = true) (hd : (Lit.int .i64 den).wf = true) (w : World) :
    Calls Tryz.prog 35 #[tsv p q num den, drv h r al, .bool hit] w fun e w' => e = .returned (tkv (takeS p q num den h r al hit)) ∧ Below w.heap.size w w' := by
  have k3 := ((Blk.new w 67 #[.int .i64 p, .int .i64 q, .int .i64 num, .int .i64 den]).alloc (.cells #[.int .i64 h, .int .i64 r, .bool al] 70)).alloc (.cells #[.int .i64 0, .int .i64 0, .bool false] 70)
  have k4 := by simpa only [World.size_alloc] using (Blk.new (w.alloc (.cells #[.int .i64 p, .int .i64 q, .int .i64 num, .int .i64 den] 67)) 70 #[.int .i64 h, .int .i64 r, .bool al]).alloc (.cells #[.int .i64 0, .int .i64 0, .bool false] 70)
  have k6 := by simpa only [World.size_alloc] using Blk.new ((w.alloc (.cells #[.int .i64 p, .int .i64 q, .int .i64 num, .int .i64 den] 67)).alloc (.cells #[.int .i64 h, .int .i64 r, .bool al] 70)) 70 #[.int .i64 0, .int .i64 0, .bool false]
  have hB := jwd_al (jwd_al (jwd_al (Below.refl _ w) (.cells #[.int .i64 p, .int .i64 q, .int .i64 num, .int .i64 den] 67)) (.cells #[.int .i64 h, .int .i64 r, .bool al] 70)) (.cells #[.int .i64 0, .int .i64 0, .bool false] 70)
  obtain ⟨W1, hW1⟩ : ∃ W, ((w.alloc (.cells #[.int .i64 p, .int .i64 q, .int .i64 num, .int .i64 den] 67)).alloc (.cells #[.int .i64 h, .int .i64 r, .bool al] 70)).alloc (.cells #[.int .i64 0, .int .i64 0, .bool false] 70) = W := ⟨_, rfl⟩
  rw [hW1] at k3 k4 k6 hB
  have hWH := Lib.hid hW1
  have c30 := k3.cell (i := 0) rfl
  have c31 := k3.cell (i := 1) rfl
  have c32 := k3.cell (i := 2) rfl
  have c33 := k3.cell (i := 3) rfl
  obtain ⟨v, hv⟩ : ∃ v, testB p q num den = v := ⟨_, rfl⟩
  have hct := fun W => CheckTest_any p q num den hn hd v hv W
  have hctH := Lib.hid hct
  have hvH := Lib.hid hv
  clear hW1 hct hv hn hd
  cases v with
  | false =>
    have hres : takeS p q num den h r al hit = ((0, 0, false), 81) := by unfold takeS; rw [hvH.out]; rfl
    rw [hres]
    clear hres
    go_enter Tryz.func35, Tryz.ntmps35
    go_wp2_with (go_at_call 73; rw [hWH.out]; refine (hctH.out _).mono ?_; rintro e W2 ⟨rfl, hb2⟩; have hB2 := hB.trans (hb2.mono hB.size); have l3 := k3.below hb2 k3.lt; have l4 := k4.below hb2 k4.lt; have l6 := k6.below hb2 k6.lt; clear c30 c31 c32 c33 hb2; have c30 := l3.cell (i := 0) rfl; have c31 := l3.cell (i := 1) rfl; have c32 := l3.cell (i := 2) rfl; have c33 := l3.cell (i := 3) rfl; have c40 := l4.cell (i := 0) rfl; have c41 := l4.cell (i := 1) rfl; have c42 := l4.cell (i := 2) rfl; have c60 := l6.cell (i := 0) rfl; have c61 := l6.cell (i := 1) rfl; have c62 := l6.cell (i := 2) rfl; have f60 := l6.frozen 0; have f61 := l6.frozen 1; have f62 := l6.frozen 2; have f40 := l4.frozen 0; have f41 := l4.frozen 1; have f42 := l4.frozen 2; have s2 := l6.lt; have s4 := l4.lt; have s3 := l3.lt)
    exact bodyPost_ret (v := tkv ((0, 0, false), 81)) (by simp [results, Tryz.results35, go_sem, c60, c61, c62]) rfl ⟨rfl, by simpa using ((hB2.setCell (p := ⟨w.heap.size + 1 + 1, 0, none⟩) (by simp; omega) (.int .i64 0)).setCell (p := ⟨w.heap.size + 1 + 1, 1, none⟩) (by simp; omega) (.int .i64 0)).setCell (p := ⟨w.heap.size + 1 + 1, 2, none⟩) (by simp; omega) (.bool false)⟩
  | true =>
    by_cases hr5 : 0 ≤ r ∧ r ≤ 500
    case neg =>
      have hres : takeS p q num den h r al hit = ((0, 0, false), 2) := by unfold takeS; rw [hvH.out, if_neg (by decide), if_pos (by omega)]
      rw [hres]
      clear hres
      have hw1 := Lib.hid (fun W b k => tk_one 0 500 r false (by simp only [decide_eq_false_iff_not]; exact hr5) b 1 W 3 k)
      clear hr5
      go_enter Tryz.func35, Tryz.ntmps35
      go_wp2_with (first
        | (go_at_call 73; rw [hWH.out]; refine (hctH.out _).mono ?_; rintro e W2 ⟨rfl, hb2⟩; have hB2 := hB.trans (hb2.mono hB.size); have l3 := k3.below hb2 k3.lt; have l4 := k4.below hb2 k4.lt; have l6 := k6.below hb2 k6.lt; clear c30 c31 c32 c33 hb2; have c30 := l3.cell (i := 0) rfl; have c31 := l3.cell (i := 1) rfl; have c32 := l3.cell (i := 2) rfl; have c33 := l3.cell (i := 3) rfl; have c40 := l4.cell (i := 0) rfl; have c41 := l4.cell (i := 1) rfl; have c42 := l4.cell (i := 2) rfl; have c60 := l6.cell (i := 0) rfl; have c61 := l6.cell (i := 1) rfl; have c62 := l6.cell (i := 2) rfl; have f60 := l6.frozen 0; have f61 := l6.frozen 1; have f62 := l6.frozen 2; have f40 := l4.frozen 0; have f41 := l4.frozen 1; have f42 := l4.frozen 2; have s2 := l6.lt; have s4 := l4.lt; have s3 := l3.lt)
        | (go_at_call 48; refine (hw1.out _ _ (Blk.new _ _ _)).mono ?_; rintro e w' ⟨rfl, rfl⟩))
      have K := (((l6.set 0 (.int .i64 0)).set 1 (.int .i64 0)).set 2 (.bool false)).alloc (.cells #[.int .i64 r] 3)
      have L := jwd_al (((hB2.setCell (p := ⟨w.heap.size + 1 + 1, 0, none⟩) (by simp; omega) (.int .i64 0)).setCell (p := ⟨w.heap.size + 1 + 1, 1, none⟩) (by simp; omega) (.int .i64 0)).setCell (p := ⟨w.heap.size + 1 + 1, 2, none⟩) (by simp; omega) (.bool false)) (.cells #[.int .i64 r] 3)
      clear c60 c61 c62 f60 f61 f62 f40 f41 f42 c40 c41 c42
      revert K L
      generalize (((W2.setCell ⟨w.heap.size + 1 + 1, 0, none⟩ (.int .i64 0)).setCell ⟨w.heap.size + 1 + 1, 1, none⟩ (.int .i64 0)).setCell ⟨w.heap.size + 1 + 1, 2, none⟩ (.bool false)).alloc (.cells #[.int .i64 r] 3) = Vf
      intro K L
      have g0 := K.cell (i := 0) rfl
      have g1 := K.cell (i := 1) rfl
      have g2 := K.cell (i := 2) rfl
      exact bodyPost_ret (v := tkv ((0, 0, false), 2)) (by simp [results, Tryz.results35, go_sem, g0, g1, g2]) rfl ⟨rfl, L⟩
    have tok1 : True := trivial
    have hw1 := Lib.hid (fun W b k => tk_one 0 500 r true (by simp only [decide_eq_true_eq]; exact hr5) b 1 W 3 k)
    by_cases hh5 : 0 ≤ h ∧ h ≤ r
    case neg =>
      have hres : takeS p q num den h r al hit = ((0, 0, false), 2) := by unfold takeS; rw [hvH.out, if_neg (by decide), if_pos (by omega)]
      rw [hres]
      clear hres
      have hw2 := Lib.hid (fun W b k => tk_one 0 r h false (by simp only [decide_eq_false_iff_not]; exact hh5) b 1 W 3 k)
      clear hr5 hh5
      go_enter Tryz.func35, Tryz.ntmps35
      go_wp2_with (first
        | (go_at_call 73; rw [hWH.out]; refine (hctH.out _).mono ?_; rintro e W2 ⟨rfl, hb2⟩; have hB2 := hB.trans (hb2.mono hB.size); have l3 := k3.below hb2 k3.lt; have l4 := k4.below hb2 k4.lt; have l6 := k6.below hb2 k6.lt; clear c30 c31 c32 c33 hb2; have c30 := l3.cell (i := 0) rfl; have c31 := l3.cell (i := 1) rfl; have c32 := l3.cell (i := 2) rfl; have c33 := l3.cell (i := 3) rfl; have c40 := l4.cell (i := 0) rfl; have c41 := l4.cell (i := 1) rfl; have c42 := l4.cell (i := 2) rfl; have c60 := l6.cell (i := 0) rfl; have c61 := l6.cell (i := 1) rfl; have c62 := l6.cell (i := 2) rfl; have f60 := l6.frozen 0; have f61 := l6.frozen 1; have f62 := l6.frozen 2; have f40 := l4.frozen 0; have f41 := l4.frozen 1; have f42 := l4.frozen 2; have s2 := l6.lt; have s4 := l4.lt; have s3 := l3.lt)
        | (go_at_call 48; first | (have _t := tok1; refine (hw1.out _ _ (Blk.new _ _ _)).mono ?_; clear _t tok1; rintro e w' ⟨rfl, rfl⟩; have kz := by simpa only [World.size_alloc] using Blk.new (W2.alloc (.cells #[.int .i64 r] 3)) 3 #[.int .i64 h]) | (refine (hw2.out _ _ kz).mono ?_; rintro e w' ⟨rfl, rfl⟩; clear kz)))
      have K := ((((l6.set 0 (.int .i64 0)).set 1 (.int .i64 0)).set 2 (.bool false)).alloc (.cells #[.int .i64 r] 3)).alloc (.cells #[.int .i64 h] 3)
      have L := jwd_al (jwd_al (((hB2.setCell (p := ⟨w.heap.size + 1 + 1, 0, none⟩) (by simp; omega) (.int .i64 0)).setCell (p := ⟨w.heap.size + 1 + 1, 1, none⟩) (by simp; omega) (.int .i64 0)).setCell (p := ⟨w.heap.size + 1 + 1, 2, none⟩) (by simp; omega) (.bool false)) (.cells #[.int .i64 r] 3)) (.cells #[.int .i64 h] 3)
      clear c60 c61 c62 f60 f61 f62 f40 f41 f42 c40 c41 c42
      revert K L
      generalize ((((W2.setCell ⟨w.heap.size + 1 + 1, 0, none⟩ (.int .i64 0)).setCell ⟨w.heap.size + 1 + 1, 1, none⟩ (.int .i64 0)).setCell ⟨w.heap.size + 1 + 1, 2, none⟩ (.bool false)).alloc (.cells #[.int .i64 r] 3)).alloc (.cells #[.int .i64 h] 3) = Vf
      intro K L
      have g0 := K.cell (i := 0) rfl
      have g1 := K.cell (i := 1) rfl
      have g2 := K.cell (i := 2) rfl
      exact bodyPost_ret (v := tkv ((0, 0, false), 2)) (by simp [results, Tryz.results35, go_sem, g0, g1, g2]) rfl ⟨rfl, L⟩
    have hw2 := Lib.hid (fun W b k => tk_one 0 r h true (by simp only [decide_eq_true_eq]; exact hh5) b 1 W 3 k)
    by_cases hrm : r = 500
    · have hres : takeS p q num den h r al hit = ((0, 0, false), 9) := by unfold takeS; rw [hvH.out, if_neg (by decide), if_neg (by omega), if_pos hrm]
      rw [hres]
      subst hrm
      clear hres hr5 hh5
      go_enter Tryz.func35, Tryz.ntmps35
      go_wp2_with (first
        | (go_at_call 73; rw [hWH.out]; refine (hctH.out _).mono ?_; rintro e W2 ⟨rfl, hb2⟩; have hB2 := hB.trans (hb2.mono hB.size); have l3 := k3.below hb2 k3.lt; have l4 := k4.below hb2 k4.lt; have l6 := k6.below hb2 k6.lt; clear c30 c31 c32 c33 hb2; have c30 := l3.cell (i := 0) rfl; have c31 := l3.cell (i := 1) rfl; have c32 := l3.cell (i := 2) rfl; have c33 := l3.cell (i := 3) rfl; have c40 := l4.cell (i := 0) rfl; have c41 := l4.cell (i := 1) rfl; have c42 := l4.cell (i := 2) rfl; have c60 := l6.cell (i := 0) rfl; have c61 := l6.cell (i := 1) rfl; have c62 := l6.cell (i := 2) rfl; have f60 := l6.frozen 0; have f61 := l6.frozen 1; have f62 := l6.frozen 2; have f40 := l4.frozen 0; have f41 := l4.frozen 1; have f42 := l4.frozen 2; have s2 := l6.lt; have s4 := l4.lt; have s3 := l3.lt)
        | (go_at_call 48; first | (have _t := tok1; refine (hw1.out _ _ (Blk.new _ _ _)).mono ?_; clear _t tok1; rintro e w' ⟨rfl, rfl⟩; have kz := by simpa only [World.size_alloc] using Blk.new (W2.alloc (.cells #[.int .i64 500] 3)) 3 #[.int .i64 h]) | (refine (hw2.out _ _ kz).mono ?_; rintro e w' ⟨rfl, rfl⟩; clear kz)))
      have K := ((((l6.set 0 (.int .i64 0)).set 1 (.int .i64 0)).set 2 (.bool false)).alloc (.cells #[.int .i64 500] 3)).alloc (.cells #[.int .i64 h] 3)
      have L := jwd_al (jwd_al (((hB2.setCell (p := ⟨w.heap.size + 1 + 1, 0, none⟩) (by simp; omega) (.int .i64 0)).setCell (p := ⟨w.heap.size + 1 + 1, 1, none⟩) (by simp; omega) (.int .i64 0)).setCell (p := ⟨w.heap.size + 1 + 1, 2, none⟩) (by simp; omega) (.bool false)) (.cells #[.int .i64 500] 3)) (.cells #[.int .i64 h] 3)
      clear c60 c61 c62 f60 f61 f62 f40 f41 f42 c40 c41 c42
      revert K L
      generalize ((((W2.setCell ⟨w.heap.size + 1 + 1, 0, none⟩ (.int .i64 0)).setCell ⟨w.heap.size + 1 + 1, 1, none⟩ (.int .i64 0)).setCell ⟨w.heap.size + 1 + 1, 2, none⟩ (.bool false)).alloc (.cells #[.int .i64 500] 3)).alloc (.cells #[.int .i64 h] 3) = Vf
      intro K L
      have g0 := K.cell (i := 0) rfl
      have g1 := K.cell (i := 1) rfl
      have g2 := K.cell (i := 2) rfl
      exact bodyPost_ret (v := tkv ((0, 0, false), 9)) (by simp [results, Tryz.results35, go_sem, g0, g1, g2]) rfl ⟨rfl, L⟩
    obtain ⟨⟨tp1, tp2, tp3⟩, tn1, tn2, tn3⟩ := testB_true hvH.out
    obtain ⟨P, rfl⟩ := Int.eq_ofNat_of_zero_le (show 0 ≤ p by omega)
    obtain ⟨Q, rfl⟩ := Int.eq_ofNat_of_zero_le (show 0 ≤ q by omega)
    obtain ⟨A, rfl⟩ := Int.eq_ofNat_of_zero_le (show 0 ≤ num by omega)
    obtain ⟨D, rfl⟩ := Int.eq_ofNat_of_zero_le (show 0 ≤ den by omega)
    obtain ⟨H, rfl⟩ := Int.eq_ofNat_of_zero_le (show 0 ≤ h by omega)
    obtain ⟨R, rfl⟩ := Int.eq_ofNat_of_zero_le (show 0 ≤ r by omega)
    have hR : R < 500 := by omega
    have hHR : H ≤ R := by omega
    obtain ⟨h2, hh2⟩ : ∃ x : Nat, (if hit = true then H + 1 else H) = x := ⟨_, rfl⟩
    have hh2b : h2 ≤ R + 1 := by rw [← hh2]; split <;> omega
    obtain ⟨v2, hv2⟩ : ∃ v, raiseB P Q A D h2 (R + 1 - h2) = v := ⟨_, rfl⟩
    have hh2i : (if hit = true then (H : Int) + 1 else (H : Int)) = (h2 : Int) := by rw [← hh2]; split <;> simp
    have hres : takeS P Q A D H R al hit = (((h2 : Int), (R : Int) + 1, al || v2), 0) := by
      unfold takeS
      rw [hvH.out, if_neg (by decide), if_neg (by omega), if_neg hrm, hh2i]
      simp only [Int.toNat_natCast, show ((R : Int) + 1).toNat = R + 1 by omega, hv2]
    rw [hres]
    have hrs := fun W => raises_any P Q A D h2 (R + 1) (by omega) (by omega) (by omega) (by omega) (by omega) (by omega) hh2b (by omega) v2 hv2 W
    have hrsH := Lib.hid hrs
    have hrm2 : ((R : Int) == 500) = false := by simp; omega
    clear hres hrs hv2 hh2b tp1 tp2 tp3 tn1 tn2 tn3 hr5 hh5 hvH hh2i
    by_cases hx : hit = true ∧ al = true
    · obtain ⟨rfl, rfl⟩ := hx
      obtain rfl : H + 1 = h2 := hh2
      go_enter Tryz.func35, Tryz.ntmps35
      go_wp2_with (first
        | (go_at_call 73; rw [hWH.out]; refine (hctH.out _).mono ?_; rintro e W2 ⟨rfl, hb2⟩; have hB2 := hB.trans (hb2.mono hB.size); have l3 := k3.below hb2 k3.lt; have l4 := k4.below hb2 k4.lt; have l6 := k6.below hb2 k6.lt; clear c30 c31 c32 c33 hb2; have c30 := l3.cell (i := 0) rfl; have c31 := l3.cell (i := 1) rfl; have c32 := l3.cell (i := 2) rfl; have c33 := l3.cell (i := 3) rfl; have c40 := l4.cell (i := 0) rfl; have c41 := l4.cell (i := 1) rfl; have c42 := l4.cell (i := 2) rfl; have c60 := l6.cell (i := 0) rfl; have c61 := l6.cell (i := 1) rfl; have c62 := l6.cell (i := 2) rfl; have f60 := l6.frozen 0; have f61 := l6.frozen 1; have f62 := l6.frozen 2; have f40 := l4.frozen 0; have f41 := l4.frozen 1; have f42 := l4.frozen 2; have s2 := l6.lt; have s4 := l4.lt; have s3 := l3.lt)
        | (go_at_call 48; first | (have _t := tok1; refine (hw1.out _ _ (Blk.new _ _ _)).mono ?_; clear _t tok1; rintro e w' ⟨rfl, rfl⟩; have kz := by simpa only [World.size_alloc] using Blk.new (W2.alloc (.cells #[.int .i64 (R : Int)] 3)) 3 #[.int .i64 (H : Int)]) | (refine (hw2.out _ _ kz).mono ?_; rintro e w' ⟨rfl, rfl⟩; clear kz))
        | (go_at_call 74; have K4 := ((((l4).set 1 (.int .i64 ((R : Int) + 1))).set 0 (.int .i64 ((H : Int) + 1))).alloc (.cells #[.int .i64 (R : Int)] 3)).alloc (.cells #[.int .i64 (H : Int)] 3); have K6 := ((((l6).other (a := ⟨w.heap.size + 1, 1, none⟩) (by simp <;> omega) (.int .i64 ((R : Int) + 1))).other (a := ⟨w.heap.size + 1, 0, none⟩) (by simp <;> omega) (.int .i64 ((H : Int) + 1))).alloc (.cells #[.int .i64 (R : Int)] 3)).alloc (.cells #[.int .i64 (H : Int)] 3); have L := jwd_al (jwd_al (((hB2).setCell (p := ⟨w.heap.size + 1, 1, none⟩) (by simp) (.int .i64 ((R : Int) + 1))).setCell (p := ⟨w.heap.size + 1, 0, none⟩) (by simp) (.int .i64 ((H : Int) + 1))) (.cells #[.int .i64 (R : Int)] 3)) (.cells #[.int .i64 (H : Int)] 3); refine (hrs2H.out _).mono ?_; rintro e W3 ⟨rfl, hb3⟩; have m4 := K4.below hb3 K4.lt; have m6 := K6.below hb3 K6.lt; have L3 := L.trans (hb3.mono L.size); clear hb3 K4 K6 L c30 c31 c32 c33 c40 c41 c42 c60 c61 c62 f60 f61 f62 f40 f41 f42 l3 l4 l6; have c40 := m4.cell (i := 0) rfl; have c41 := m4.cell (i := 1) rfl; have c42 := m4.cell (i := 2) rfl; have c60 := m6.cell (i := 0) rfl; have c61 := m6.cell (i := 1) rfl; have c62 := m6.cell (i := 2) rfl; have f60 := m6.frozen 0; have f61 := m6.frozen 1; have f62 := m6.frozen 2; have f42 := m4.frozen 2))
      have K := ((((((((l6).other (a := ⟨w.heap.size + 1, 1, none⟩) (by simp <;> omega) (.int .i64 ((R : Int) + 1))).other (a := ⟨w.heap.size + 1, 0, none⟩) (by simp <;> omega) (.int .i64 ((H : Int) + 1))).other (a := ⟨w.heap.size + 1, 2, none⟩) (by simp <;> omega) (.bool true)).set 0 (.int .i64 ((H : Int) + 1))).set 1 (.int .i64 ((R : Int) + 1))).set 2 (.bool true)).alloc (.cells #[.int .i64 (R : Int)] 3)).alloc (.cells #[.int .i64 (H : Int)] 3)
      have L := jwd_al (jwd_al (((((((hB2).setCell (p := ⟨w.heap.size + 1, 1, none⟩) (by simp) (.int .i64 ((R : Int) + 1))).setCell (p := ⟨w.heap.size + 1, 0, none⟩) (by simp) (.int .i64 ((H : Int) + 1))).setCell (p := ⟨w.heap.size + 1, 2, none⟩) (by simp) (.bool true)).setCell (p := ⟨w.heap.size + 1 + 1, 0, none⟩) (by simp; omega) (.int .i64 ((H : Int) + 1))).setCell (p := ⟨w.heap.size + 1 + 1, 1, none⟩) (by simp; omega) (.int .i64 ((R : Int) + 1))).setCell (p := ⟨w.heap.size + 1 + 1, 2, none⟩) (by simp; omega) (.bool true)) (.cells #[.int .i64 (R : Int)] 3)) (.cells #[.int .i64 (H : Int)] 3)
      clear c60 c61 c62 f60 f61 f62 c40 c41 c42 f42
      revert K L
      generalize (((((((W2.setCell ⟨w.heap.size + 1, 1, none⟩ (.int .i64 ((R : Int) + 1))).setCell ⟨w.heap.size + 1, 0, none⟩ (.int .i64 ((H : Int) + 1))).setCell ⟨w.heap.size + 1, 2, none⟩ (.bool true)).setCell ⟨w.heap.size + 1 + 1, 0, none⟩ (.int .i64 ((H : Int) + 1))).setCell ⟨w.heap.size + 1 + 1, 1, none⟩ (.int .i64 ((R : Int) + 1))).setCell ⟨w.heap.size + 1 + 1, 2, none⟩ (.bool true)).alloc (.cells #[.int .i64 (R : Int)] 3)).alloc (.cells #[.int .i64 (H : Int)] 3) = Vf
      intro K L
      have g0 := K.cell (i := 0) (v := (.int .i64 ((H : Int) + 1))) (by simp)
      have g1 := K.cell (i := 1) (v := (.int .i64 ((R : Int) + 1))) (by simp)
      have g2 := K.cell (i := 2) (v := (.bool true)) (by simp)
      exact bodyPost_ret (v := tkv ((((H : Int) + 1), (R : Int) + 1, true), 0)) (by simp [results, Tryz.results35, go_sem, g0, g1, g2]) rfl ⟨by simp, L⟩
    by_cases hx : hit = true ∧ al = false
    · obtain ⟨rfl, rfl⟩ := hx
      obtain rfl : H + 1 = h2 := hh2
      have hrs2 : ∀ W, Calls Tryz.prog 74 #[tsv P Q A D, .int .i64 ((H : Int) + 1), .int .i64 ((R : Int) + 1)] W fun e w' => e = .returned (.bool v2) ∧ Below W.heap.size W w' := fun W => by
        have := hrsH.out W
        push_cast at this
        exact this
      have hrs2H := Lib.hid hrs2
      clear hrs2 hrsH
      go_enter Tryz.func35, Tryz.ntmps35
      go_wp2_with (first
        | (go_at_call 73; rw [hWH.out]; refine (hctH.out _).mono ?_; rintro e W2 ⟨rfl, hb2⟩; have hB2 := hB.trans (hb2.mono hB.size); have l3 := k3.below hb2 k3.lt; have l4 := k4.below hb2 k4.lt; have l6 := k6.below hb2 k6.lt; clear c30 c31 c32 c33 hb2; have c30 := l3.cell (i := 0) rfl; have c31 := l3.cell (i := 1) rfl; have c32 := l3.cell (i := 2) rfl; have c33 := l3.cell (i := 3) rfl; have c40 := l4.cell (i := 0) rfl; have c41 := l4.cell (i := 1) rfl; have c42 := l4.cell (i := 2) rfl; have c60 := l6.cell (i := 0) rfl; have c61 := l6.cell (i := 1) rfl; have c62 := l6.cell (i := 2) rfl; have f60 := l6.frozen 0; have f61 := l6.frozen 1; have f62 := l6.frozen 2; have f40 := l4.frozen 0; have f41 := l4.frozen 1; have f42 := l4.frozen 2; have s2 := l6.lt; have s4 := l4.lt; have s3 := l3.lt)
        | (go_at_call 48; first | (have _t := tok1; refine (hw1.out _ _ (Blk.new _ _ _)).mono ?_; clear _t tok1; rintro e w' ⟨rfl, rfl⟩; have kz := by simpa only [World.size_alloc] using Blk.new (W2.alloc (.cells #[.int .i64 (R : Int)] 3)) 3 #[.int .i64 (H : Int)]) | (refine (hw2.out _ _ kz).mono ?_; rintro e w' ⟨rfl, rfl⟩; clear kz))
        | (go_at_call 74; have K4 := ((((l4).set 1 (.int .i64 ((R : Int) + 1))).set 0 (.int .i64 ((H : Int) + 1))).alloc (.cells #[.int .i64 (R : Int)] 3)).alloc (.cells #[.int .i64 (H : Int)] 3); have K6 := ((((l6).other (a := ⟨w.heap.size + 1, 1, none⟩) (by simp <;> omega) (.int .i64 ((R : Int) + 1))).other (a := ⟨w.heap.size + 1, 0, none⟩) (by simp <;> omega) (.int .i64 ((H : Int) + 1))).alloc (.cells #[.int .i64 (R : Int)] 3)).alloc (.cells #[.int .i64 (H : Int)] 3); have L := jwd_al (jwd_al (((hB2).setCell (p := ⟨w.heap.size + 1, 1, none⟩) (by simp) (.int .i64 ((R : Int) + 1))).setCell (p := ⟨w.heap.size + 1, 0, none⟩) (by simp) (.int .i64 ((H : Int) + 1))) (.cells #[.int .i64 (R : Int)] 3)) (.cells #[.int .i64 (H : Int)] 3); refine (hrs2H.out _).mono ?_; rintro e W3 ⟨rfl, hb3⟩; have m4 := K4.below hb3 K4.lt; have m6 := K6.below hb3 K6.lt; have L3 := L.trans (hb3.mono L.size); clear hb3 K4 K6 L c30 c31 c32 c33 c40 c41 c42 c60 c61 c62 f60 f61 f62 f40 f41 f42 l3 l4 l6; have c40 := m4.cell (i := 0) rfl; have c41 := m4.cell (i := 1) rfl; have c42 := m4.cell (i := 2) rfl; have c60 := m6.cell (i := 0) rfl; have c61 := m6.cell (i := 1) rfl; have c62 := m6.cell (i := 2) rfl; have f60 := m6.frozen 0; have f61 := m6.frozen 1; have f62 := m6.frozen 2; have f42 := m4.frozen 2))
      have K := ((((m6).other (a := ⟨w.heap.size + 1, 2, none⟩) (by simp <;> omega) (.bool v2)).set 0 (.int .i64 ((H : Int) + 1))).set 1 (.int .i64 ((R : Int) + 1))).set 2 (.bool v2)
      have L := ((((L3).setCell (p := ⟨w.heap.size + 1, 2, none⟩) (by simp) (.bool v2)).setCell (p := ⟨w.heap.size + 1 + 1, 0, none⟩) (by simp; omega) (.int .i64 ((H : Int) + 1))).setCell (p := ⟨w.heap.size + 1 + 1, 1, none⟩) (by simp; omega) (.int .i64 ((R : Int) + 1))).setCell (p := ⟨w.heap.size + 1 + 1, 2, none⟩) (by simp; omega) (.bool v2)
      clear c60 c61 c62 f60 f61 f62 c40 c41 c42 f42
      revert K L
      generalize (((W3.setCell ⟨w.heap.size + 1, 2, none⟩ (.bool v2)).setCell ⟨w.heap.size + 1 + 1, 0, none⟩ (.int .i64 ((H : Int) + 1))).setCell ⟨w.heap.size + 1 + 1, 1, none⟩ (.int .i64 ((R : Int) + 1))).setCell ⟨w.heap.size + 1 + 1, 2, none⟩ (.bool v2) = Vf
      intro K L
      have g0 := K.cell (i := 0) (v := (.int .i64 ((H : Int) + 1))) (by simp)
      have g1 := K.cell (i := 1) (v := (.int .i64 ((R : Int) + 1))) (by simp)
      have g2 := K.cell (i := 2) (v := (.bool v2)) (by simp)
      exact bodyPost_ret (v := tkv ((((H : Int) + 1), (R : Int) + 1, v2), 0)) (by simp [results, Tryz.results35, go_sem, g0, g1, g2]) rfl ⟨by simp, L⟩
    by_cases hx : hit = false ∧ al = true
    · obtain ⟨rfl, rfl⟩ := hx
      obtain rfl : H = h2 := hh2
      go_enter Tryz.func35, Tryz.ntmps35
      go_wp2_with (first
        | (go_at_call 73; rw [hWH.out]; refine (hctH.out _).mono ?_; rintro e W2 ⟨rfl, hb2⟩; have hB2 := hB.trans (hb2.mono hB.size); have l3 := k3.below hb2 k3.lt; have l4 := k4.below hb2 k4.lt; have l6 := k6.below hb2 k6.lt; clear c30 c31 c32 c33 hb2; have c30 := l3.cell (i := 0) rfl; have c31 := l3.cell (i := 1) rfl; have c32 := l3.cell (i := 2) rfl; have c33 := l3.cell (i := 3) rfl; have c40 := l4.cell (i := 0) rfl; have c41 := l4.cell (i := 1) rfl; have c42 := l4.cell (i := 2) rfl; have c60 := l6.cell (i := 0) rfl; have c61 := l6.cell (i := 1) rfl; have c62 := l6.cell (i := 2) rfl; have f60 := l6.frozen 0; have f61 := l6.frozen 1; have f62 := l6.frozen 2; have f40 := l4.frozen 0; have f41 := l4.frozen 1; have f42 := l4.frozen 2; have s2 := l6.lt; have s4 := l4.lt; have s3 := l3.lt)
        | (go_at_call 48; first | (have _t := tok1; refine (hw1.out _ _ (Blk.new _ _ _)).mono ?_; clear _t tok1; rintro e w' ⟨rfl, rfl⟩; have kz := by simpa only [World.size_alloc] using Blk.new (W2.alloc (.cells #[.int .i64 (R : Int)] 3)) 3 #[.int .i64 (H : Int)]) | (refine (hw2.out _ _ kz).mono ?_; rintro e w' ⟨rfl, rfl⟩; clear kz))
        | (go_at_call 74; have K4 := (((l4).set 1 (.int .i64 ((R : Int) + 1))).alloc (.cells #[.int .i64 (R : Int)] 3)).alloc (.cells #[.int .i64 (H : Int)] 3); have K6 := (((l6).other (a := ⟨w.heap.size + 1, 1, none⟩) (by simp <;> omega) (.int .i64 ((R : Int) + 1))).alloc (.cells #[.int .i64 (R : Int)] 3)).alloc (.cells #[.int .i64 (H : Int)] 3); have L := jwd_al (jwd_al ((hB2).setCell (p := ⟨w.heap.size + 1, 1, none⟩) (by simp) (.int .i64 ((R : Int) + 1))) (.cells #[.int .i64 (R : Int)] 3)) (.cells #[.int .i64 (H : Int)] 3); refine (hrs2H.out _).mono ?_; rintro e W3 ⟨rfl, hb3⟩; have m4 := K4.below hb3 K4.lt; have m6 := K6.below hb3 K6.lt; have L3 := L.trans (hb3.mono L.size); clear hb3 K4 K6 L c30 c31 c32 c33 c40 c41 c42 c60 c61 c62 f60 f61 f62 f40 f41 f42 l3 l4 l6; have c40 := m4.cell (i := 0) rfl; have c41 := m4.cell (i := 1) rfl; have c42 := m4.cell (i := 2) rfl; have c60 := m6.cell (i := 0) rfl; have c61 := m6.cell (i := 1) rfl; have c62 := m6.cell (i := 2) rfl; have f60 := m6.frozen 0; have f61 := m6.frozen 1; have f62 := m6.frozen 2; have f42 := m4.frozen 2))
      have K := (((((((l6).other (a := ⟨w.heap.size + 1, 1, none⟩) (by simp <;> omega) (.int .i64 ((R : Int) + 1))).other (a := ⟨w.heap.size + 1, 2, none⟩) (by simp <;> omega) (.bool true)).set 0 (.int .i64 (H : Int))).set 1 (.int .i64 ((R : Int) + 1))).set 2 (.bool true)).alloc (.cells #[.int .i64 (R : Int)] 3)).alloc (.cells #[.int .i64 (H : Int)] 3)
      have L := jwd_al (jwd_al ((((((hB2).setCell (p := ⟨w.heap.size + 1, 1, none⟩) (by simp) (.int .i64 ((R : Int) + 1))).setCell (p := ⟨w.heap.size + 1, 2, none⟩) (by simp) (.bool true)).setCell (p := ⟨w.heap.size + 1 + 1, 0, none⟩) (by simp; omega) (.int .i64 (H : Int))).setCell (p := ⟨w.heap.size + 1 + 1, 1, none⟩) (by simp; omega) (.int .i64 ((R : Int) + 1))).setCell (p := ⟨w.heap.size + 1 + 1, 2, none⟩) (by simp; omega) (.bool true)) (.cells #[.int .i64 (R : Int)] 3)) (.cells #[.int .i64 (H : Int)] 3)
      clear c60 c61 c62 f60 f61 f62 c40 c41 c42 f42
      revert K L
      generalize ((((((W2.setCell ⟨w.heap.size + 1, 1, none⟩ (.int .i64 ((R : Int) + 1))).setCell ⟨w.heap.size + 1, 2, none⟩ (.bool true)).setCell ⟨w.heap.size + 1 + 1, 0, none⟩ (.int .i64 (H : Int))).setCell ⟨w.heap.size + 1 + 1, 1, none⟩ (.int .i64 ((R : Int) + 1))).setCell ⟨w.heap.size + 1 + 1, 2, none⟩ (.bool true)).alloc (.cells #[.int .i64 (R : Int)] 3)).alloc (.cells #[.int .i64 (H : Int)] 3) = Vf
      intro K L
      have g0 := K.cell (i := 0) (v := (.int .i64 (H : Int))) (by simp)
      have g1 := K.cell (i := 1) (v := (.int .i64 ((R : Int) + 1))) (by simp)
      have g2 := K.cell (i := 2) (v := (.bool true)) (by simp)
      exact bodyPost_ret (v := tkv (((H : Int), (R : Int) + 1, true), 0)) (by simp [results, Tryz.results35, go_sem, g0, g1, g2]) rfl ⟨by simp, L⟩
    by_cases hx : hit = false ∧ al = false
    · obtain ⟨rfl, rfl⟩ := hx
      obtain rfl : H = h2 := hh2
      have hrs2 : ∀ W, Calls Tryz.prog 74 #[tsv P Q A D, .int .i64 (H : Int), .int .i64 ((R : Int) + 1)] W fun e w' => e = .returned (.bool v2) ∧ Below W.heap.size W w' := fun W => by
        have := hrsH.out W
        push_cast at this
        exact this
      have hrs2H := Lib.hid hrs2
      clear hrs2 hrsH
      go_enter Tryz.func35, Tryz.ntmps35
      go_wp2_with (first
        | (go_at_call 73; rw [hWH.out]; refine (hctH.out _).mono ?_; rintro e W2 ⟨rfl, hb2⟩; have hB2 := hB.trans (hb2.mono hB.size); have l3 := k3.below hb2 k3.lt; have l4 := k4.below hb2 k4.lt; have l6 := k6.below hb2 k6.lt; clear c30 c31 c32 c33 hb2; have c30 := l3.cell (i := 0) rfl; have c31 := l3.cell (i := 1) rfl; have c32 := l3.cell (i := 2) rfl; have c33 := l3.cell (i := 3) rfl; have c40 := l4.cell (i := 0) rfl; have c41 := l4.cell (i := 1) rfl; have c42 := l4.cell (i := 2) rfl; have c60 := l6.cell (i := 0) rfl; have c61 := l6.cell (i := 1) rfl; have c62 := l6.cell (i := 2) rfl; have f60 := l6.frozen 0; have f61 := l6.frozen 1; have f62 := l6.frozen 2; have f40 := l4.frozen 0; have f41 := l4.frozen 1; have f42 := l4.frozen 2; have s2 := l6.lt; have s4 := l4.lt; have s3 := l3.lt)
        | (go_at_call 48; first | (have _t := tok1; refine (hw1.out _ _ (Blk.new _ _ _)).mono ?_; clear _t tok1; rintro e w' ⟨rfl, rfl⟩; have kz := by simpa only [World.size_alloc] using Blk.new (W2.alloc (.cells #[.int .i64 (R : Int)] 3)) 3 #[.int .i64 (H : Int)]) | (refine (hw2.out _ _ kz).mono ?_; rintro e w' ⟨rfl, rfl⟩; clear kz))
        | (go_at_call 74; have K4 := (((l4).set 1 (.int .i64 ((R : Int) + 1))).alloc (.cells #[.int .i64 (R : Int)] 3)).alloc (.cells #[.int .i64 (H : Int)] 3); have K6 := (((l6).other (a := ⟨w.heap.size + 1, 1, none⟩) (by simp <;> omega) (.int .i64 ((R : Int) + 1))).alloc (.cells #[.int .i64 (R : Int)] 3)).alloc (.cells #[.int .i64 (H : Int)] 3); have L := jwd_al (jwd_al ((hB2).setCell (p := ⟨w.heap.size + 1, 1, none⟩) (by simp) (.int .i64 ((R : Int) + 1))) (.cells #[.int .i64 (R : Int)] 3)) (.cells #[.int .i64 (H : Int)] 3); refine (hrs2H.out _).mono ?_; rintro e W3 ⟨rfl, hb3⟩; have m4 := K4.below hb3 K4.lt; have m6 := K6.below hb3 K6.lt; have L3 := L.trans (hb3.mono L.size); clear hb3 K4 K6 L c30 c31 c32 c33 c40 c41 c42 c60 c61 c62 f60 f61 f62 f40 f41 f42 l3 l4 l6; have c40 := m4.cell (i := 0) rfl; have c41 := m4.cell (i := 1) rfl; have c42 := m4.cell (i := 2) rfl; have c60 := m6.cell (i := 0) rfl; have c61 := m6.cell (i := 1) rfl; have c62 := m6.cell (i := 2) rfl; have f60 := m6.frozen 0; have f61 := m6.frozen 1; have f62 := m6.frozen 2; have f42 := m4.frozen 2))
      have K := ((((m6).other (a := ⟨w.heap.size + 1, 2, none⟩) (by simp <;> omega) (.bool v2)).set 0 (.int .i64 (H : Int))).set 1 (.int .i64 ((R : Int) + 1))).set 2 (.bool v2)
      have L := ((((L3).setCell (p := ⟨w.heap.size + 1, 2, none⟩) (by simp) (.bool v2)).setCell (p := ⟨w.heap.size + 1 + 1, 0, none⟩) (by simp; omega) (.int .i64 (H : Int))).setCell (p := ⟨w.heap.size + 1 + 1, 1, none⟩) (by simp; omega) (.int .i64 ((R : Int) + 1))).setCell (p := ⟨w.heap.size + 1 + 1, 2, none⟩) (by simp; omega) (.bool v2)
      clear c60 c61 c62 f60 f61 f62 c40 c41 c42 f42
      revert K L
      generalize (((W3.setCell ⟨w.heap.size + 1, 2, none⟩ (.bool v2)).setCell ⟨w.heap.size + 1 + 1, 0, none⟩ (.int .i64 (H : Int))).setCell ⟨w.heap.size + 1 + 1, 1, none⟩ (.int .i64 ((R : Int) + 1))).setCell ⟨w.heap.size + 1 + 1, 2, none⟩ (.bool v2) = Vf
      intro K L
      have g0 := K.cell (i := 0) (v := (.int .i64 (H : Int))) (by simp)
      have g1 := K.cell (i := 1) (v := (.int .i64 ((R : Int) + 1))) (by simp)
      have g2 := K.cell (i := 2) (v := (.bool v2)) (by simp)
      exact bodyPost_ret (v := tkv (((H : Int), (R : Int) + 1, v2), 0)) (by simp [results, Tryz.results35, go_sem, g0, g1, g2]) rfl ⟨by simp, L⟩
    exfalso
    cases hit <;> cases al <;> simp_all

end Go.Proofs.YtbfigbpjoaccdaaGreat
