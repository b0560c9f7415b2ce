/- Features: sums of the values of an image's cells, by its pixels in order, and by rectangles. Plain: no program in sight. -/
import Derived.Test.YtbfigbpjoaccdaaSums
namespace Go.Proofs.Ytbfigbpjoaccdaa
set_option linter.unusedVariables false
set_option linter.unusedSimpArgs false

theorem sumTo_congr' {f g : Nat → Int} {n : Nat} (h : ∀ i, i < n → f i = g i) : sumTo f n = sumTo g n := by
  induction n with
  | zero => rfl
  | succ n ih => simp only [sumTo]; rw [ih fun i hi => h i (by omega), h n (by omega)]
theorem sumTo_plus (f : Nat → Int) (m : Nat) : ∀ n, sumTo f (m + n) = sumTo f m + sumTo (fun i => f (m + i)) n
  | 0 => by simp [sumTo]
  | n + 1 => by
    rw [← Nat.add_assoc]
    simp only [sumTo]
    rw [sumTo_plus f m n]
    omega
/-- A sum over pixels, line by line. -/
theorem sum_lines (f : Nat → Int) (pw : Nat) : ∀ ph, sumTo f (ph * pw) = sumTo (fun y => sumTo (fun x => f (y * pw + x)) pw) ph
  | 0 => by simp [sumTo]
  | ph + 1 => by
    rw [Nat.add_mul, Nat.one_mul, sumTo_plus, sum_lines f pw ph]
    rfl
/-- A sum over the numbers of a segment. -/
theorem sum_seg (f : Nat → Int) {w : Nat} (hw : 0 < w) (c : Nat) : ∀ n, sumTo (fun x => if x / w = c then f x else 0) n = sumTo f (min n ((c + 1) * w)) - sumTo f (min n (c * w))
  | 0 => by simp [sumTo]
  | n + 1 => by
    have ih := sum_seg f hw c n
    simp only [sumTo]
    rw [ih]
    have hlo : n / w = c ↔ c * w ≤ n ∧ n < (c + 1) * w := by
      rw [Nat.div_eq_iff hw]
      constructor
      · intro h; exact ⟨h.1, by rw [Nat.add_mul, Nat.one_mul]; omega⟩
      · intro h; rw [Nat.add_mul, Nat.one_mul] at h; exact ⟨h.1, by omega⟩
    have hle : c * w ≤ (c + 1) * w := Nat.mul_le_mul_right w (by omega)
    obtain ⟨a, ha⟩ : ∃ a, c * w = a := ⟨_, rfl⟩
    obtain ⟨b, hb⟩ : ∃ b, (c + 1) * w = b := ⟨_, rfl⟩
    rw [ha, hb] at hlo hle
    rw [ha, hb]
    by_cases h : n / w = c
    · rw [if_pos h]
      obtain ⟨h1, h2⟩ := hlo.1 h
      rw [Nat.min_eq_left (show n ≤ b by omega), Nat.min_eq_right (show a ≤ n by omega), Nat.min_eq_left (show n + 1 ≤ b by omega), Nat.min_eq_right (show a ≤ n + 1 by omega)]
      simp only [sumTo]
      omega
    · rw [if_neg h]
      by_cases h1 : a ≤ n
      · have h2 : b ≤ n := Nat.le_of_not_lt fun hc => h (hlo.2 ⟨h1, hc⟩)
        rw [Nat.min_eq_right h2, Nat.min_eq_right h1, Nat.min_eq_right (show b ≤ n + 1 by omega), Nat.min_eq_right (show a ≤ n + 1 by omega)]
        omega
      · rw [Nat.min_eq_left (show n ≤ a by omega), Nat.min_eq_left (show n ≤ b by omega), Nat.min_eq_left (show n + 1 ≤ a by omega), Nat.min_eq_left (show n + 1 ≤ b by omega)]
        omega

/-- The cell of a pixel. -/
def cellF (pw cw ch gx i : Nat) : Nat := i / pw / ch * gx + i % pw / cw
/-- What the first k pixels add to a cell. -/
def featTo (pw cw ch gx : Nat) (v : Nat → Int) (c k : Nat) : Int := sumTo (fun i => if cellF pw cw ch gx i = c then v i else 0) k

theorem cell_iff {pw cw ch gx x y cx cy : Nat} (hx : x < pw) (hcw : 0 < cw) (hgx : gx * cw = pw) (hcx : cx < gx) : cellF pw cw ch gx (y * pw + x) = cy * gx + cx ↔ y / ch = cy ∧ x / cw = cx := by
  have e1 := idx_div (w := pw) y hx
  have e2 := idx_mod (w := pw) y hx
  have h1 : x / cw < gx := by
    rw [Nat.div_lt_iff_lt_mul hcw]
    omega
  unfold cellF
  rw [e1, e2]
  constructor
  · intro h
    have m1 := idx_mod (w := gx) (y / ch) h1
    have m2 := idx_mod (w := gx) cy hcx
    have d1 := idx_div (w := gx) (y / ch) h1
    have d2 := idx_div (w := gx) cy hcx
    rw [h] at m1 d1
    exact ⟨d1.symm.trans d2, m1.symm.trans m2⟩
  · rintro ⟨h1, h2⟩
    rw [h1, h2]

/-- The sum of a cell, by its pixels, is that of its rectangle. -/
theorem feat_rect {pw ph cw ch gx gy cx cy : Nat} (hcw : 0 < cw) (hch : 0 < ch) (hgx : gx * cw = pw) (hgy : gy * ch = ph) (hcx : cx < gx) (hcy : cy < gy) (g : Nat → Nat → Int) (v : Nat → Int) (hv : ∀ x y, x < pw → y < ph → v (y * pw + x) = g x y) :
    featTo pw cw ch gx v (cy * gx + cx) (ph * pw) = rect g (cx * cw) (cy * ch) ((cx + 1) * cw) ((cy + 1) * ch) := by
  have hpw : (cx + 1) * cw ≤ pw := by rw [← hgx]; exact Nat.mul_le_mul_right cw hcx
  have hph : (cy + 1) * ch ≤ ph := by rw [← hgy]; exact Nat.mul_le_mul_right ch hcy
  have hpw0 : cx * cw ≤ pw := Nat.le_trans (Nat.mul_le_mul_right cw (by omega)) hpw
  have hph0 : cy * ch ≤ ph := Nat.le_trans (Nat.mul_le_mul_right ch (by omega)) hph
  unfold featTo
  rw [sum_lines]
  have row : ∀ y, y < ph → sumTo (fun x => if cellF pw cw ch gx (y * pw + x) = cy * gx + cx then v (y * pw + x) else 0) pw = if y / ch = cy then rowTo g ((cx + 1) * cw) y - rowTo g (cx * cw) y else 0 := fun y hy => by
    by_cases h : y / ch = cy
    · rw [if_pos h]
      have e := sum_seg (fun x => g x y) hcw cx pw
      rw [Nat.min_eq_right hpw, Nat.min_eq_right hpw0] at e
      rw [← show sumTo (fun x => if x / cw = cx then g x y else 0) pw = rowTo g ((cx + 1) * cw) y - rowTo g (cx * cw) y from e]
      refine sumTo_congr' fun x hx => ?_
      have hc := cell_iff (ch := ch) (y := y) (cy := cy) hx hcw hgx hcx
      by_cases h2 : x / cw = cx
      · rw [if_pos (hc.2 ⟨h, h2⟩), if_pos h2, hv x y hx hy]
      · rw [if_neg (fun e => h2 (hc.1 e).2), if_neg h2]
    · rw [if_neg h, sumTo_congr' (g := fun _ => 0) fun x hx => ?_]
      · exact sumTo_zero (fun _ => rfl) _
      · exact if_neg fun e => h ((cell_iff hx hcw hgx hcx).1 e).1
  rw [sumTo_congr' row]
  have e := sum_seg (fun y => rowTo g ((cx + 1) * cw) y - rowTo g (cx * cw) y) hch cy ph
  rw [Nat.min_eq_right hph, Nat.min_eq_right hph0] at e
  rw [e]
  have sub : ∀ n, sumTo (fun y => rowTo g ((cx + 1) * cw) y - rowTo g (cx * cw) y) n = gridTo g ((cx + 1) * cw) n - gridTo g (cx * cw) n := fun n => by
    induction n with
    | zero => simp [sumTo, gridTo]
    | succ n ih => rw [sumTo, ih, gridTo_succ, gridTo_succ]; omega
  rw [sub, sub]
  unfold rect
  omega
theorem cell_lt {pw ph cw ch gx gy i : Nat} (hcw : 0 < cw) (hch : 0 < ch) (hgx : gx * cw = pw) (hgy : gy * ch = ph) (hi : i < ph * pw) : cellF pw cw ch gx i < gx * gy := by
  have hpw : 0 < pw := Nat.pos_of_ne_zero (by rintro rfl; simp at hi)
  have h1 : i % pw < pw := Nat.mod_lt _ hpw
  have h2 : i / pw < ph := Nat.div_lt_of_lt_mul (by rw [Nat.mul_comm]; exact hi)
  have h3 : i % pw / cw < gx := by rw [Nat.div_lt_iff_lt_mul hcw]; omega
  have h4 : i / pw / ch < gy := by rw [Nat.div_lt_iff_lt_mul hch]; omega
  exact idx_bound h3 h4
theorem feat_succ (pw cw ch gx : Nat) (v : Nat → Int) (c k : Nat) : featTo pw cw ch gx v c (k + 1) = featTo pw cw ch gx v c k + if cellF pw cw ch gx k = c then v k else 0 := rfl
/-- All cells together have all values. -/
theorem feat_all {pw ph cw ch gx gy : Nat} (hcw : 0 < cw) (hch : 0 < ch) (hgx : gx * cw = pw) (hgy : gy * ch = ph) (v : Nat → Int) : ∀ k, k ≤ ph * pw → sumTo (fun c => featTo pw cw ch gx v c k) (gx * gy) = sumTo v k
  | 0, _ => sumTo_zero (fun _ => rfl) _
  | k + 1, hk => by
    have ih := feat_all hcw hch hgx hgy v k (by omega)
    have hc := cell_lt hcw hch hgx hgy (show k < ph * pw by omega)
    rw [sumTo, ← ih]
    have add : ∀ (f g : Nat → Int) n, sumTo (fun i => f i + g i) n = sumTo f n + sumTo g n := fun f g n => by
      induction n with
      | zero => rfl
      | succ n ih => simp only [sumTo]; rw [ih]; omega
    rw [sumTo_congr' (fun c _ => feat_succ pw cw ch gx v c k), add]
    congr 1
    have one : ∀ n, sumTo (fun c => if cellF pw cw ch gx k = c then v k else 0) n = if cellF pw cw ch gx k < n then v k else 0 := fun n => by
      induction n with
      | zero => rfl
      | succ n ih =>
        rw [sumTo, ih]
        by_cases h : cellF pw cw ch gx k < n
        · rw [if_pos h, if_neg (by omega), if_pos (by omega)]; omega
        · rw [if_neg h]
          by_cases h2 : cellF pw cw ch gx k = n
          · rw [if_pos h2, if_pos (by omega)]; omega
          · rw [if_neg h2, if_neg (by omega)]; rfl
    rw [one, if_pos hc]

end Go.Proofs.Ytbfigbpjoaccdaa
