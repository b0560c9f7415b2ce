/- What a change allows: the least and the greatest values of a pixel, by eroding and dilating with a full window, and by all shifts. Plain. -/
import Derived.Test.YtbfigbpjoaccdaaImgS
import Derived.Test.YtbfigbpjoaccdaaImgV
import Derived.Test.YtbfigbpjoaccdaaImgH
namespace Go.Proofs.Ytbfigbpjoaccdaa
open Go
set_option linter.unusedVariables false
set_option linter.unusedSimpArgs false

/-- A value with a gain of g percent and with a added, brought into the range of a camera. -/
def spV (g a v : Int) : Int := clamp (g * v / 100 + a) 0 255
theorem spV_mono {g a u v : Int} (hg : 0 ≤ g) (h : u ≤ v) : spV g a u ≤ spV g a v := by
  have h1 : g * u ≤ g * v := Int.mul_le_mul_of_nonneg_left h hg
  have h2 : g * u / 100 ≤ g * v / 100 := Int.ediv_le_ediv (by decide) h1
  unfold spV clamp
  omega
theorem spV_bd (g a v : Int) : 0 ≤ spV g a v ∧ spV g a v ≤ 255 := by unfold spV clamp; omega
theorem spV_point (g a v : Int) : pointF ⟨g, 100 * a, 100, 0, 255⟩ v = spV g a v := by
  unfold pointF spV
  show clamp ((g * v + 100 * a) / 100) 0 255 = _
  rw [Int.add_mul_ediv_left _ _ (by decide)]

/-- The value with shift number t of (2 s + 1)^2, beyond the border that of the nearest pixel. -/
def spB (pw ph : Nat) (xs : List Int) (s : Nat) (x y : Int) (t : Nat) : Int := beyF 2 pw ph xs (x + (((t % (2 * s + 1) : Nat) : Int) - (s : Int))) (y + (((t / (2 * s + 1) : Nat) : Int) - (s : Int)))
def spLo (f : Nat → Int) : Nat → Int
  | 0 => 255
  | t + 1 => min (spLo f t) (f t)
def spHi (f : Nat → Int) : Nat → Int
  | 0 => 0
  | t + 1 => max (spHi f t) (f t)
theorem le_spLo {f : Nat → Int} {B : Int} : ∀ {n : Nat}, B ≤ spLo f n ↔ B ≤ 255 ∧ ∀ t, t < n → B ≤ f t
  | 0 => ⟨fun h => ⟨h, fun t ht => by omega⟩, fun h => h.1⟩
  | n + 1 => by
    have ih := le_spLo (f := f) (B := B) (n := n)
    simp only [spLo]
    constructor
    · intro h
      have h1 := ih.1 (by omega)
      refine ⟨h1.1, fun t ht => ?_⟩
      by_cases e : t = n
      · subst e; omega
      · exact h1.2 t (by omega)
    · intro h
      have h1 := ih.2 ⟨h.1, fun t ht => h.2 t (by omega)⟩
      have := h.2 n (by omega)
      omega
theorem spHi_le {f : Nat → Int} {B : Int} : ∀ {n : Nat}, spHi f n ≤ B ↔ 0 ≤ B ∧ ∀ t, t < n → f t ≤ B
  | 0 => ⟨fun h => ⟨h, fun t ht => by omega⟩, fun h => h.1⟩
  | n + 1 => by
    have ih := spHi_le (f := f) (B := B) (n := n)
    simp only [spHi]
    constructor
    · intro h
      have h1 := ih.1 (by omega)
      refine ⟨h1.1, fun t ht => ?_⟩
      by_cases e : t = n
      · subst e; omega
      · exact h1.2 t (by omega)
    · intro h
      have h1 := ih.2 ⟨h.1, fun t ht => h.2 t (by omega)⟩
      have := h.2 n (by omega)
      omega
theorem spLo_bd {f : Nat → Int} (hf : ∀ t, 0 ≤ f t ∧ f t ≤ 255) (n : Nat) : 0 ≤ spLo f n ∧ spLo f n ≤ 255 := by
  induction n with
  | zero => simp [spLo]
  | succ n ih => have := hf n; simp only [spLo]; omega
theorem spHi_bd {f : Nat → Int} (hf : ∀ t, 0 ≤ f t ∧ f t ≤ 255) (n : Nat) : 0 ≤ spHi f n ∧ spHi f n ≤ 255 := by
  induction n with
  | zero => simp [spHi]
  | succ n ih => have := hf n; simp only [spHi]; omega

/-- The greatest, the least value is one of those that count. -/
theorem morTo_is {mx : Bool} {ok : Nat → Bool} {val : Nat → Int} (hv : ∀ t, -2147483648 ≤ val t ∧ val t ≤ 2147483648) : ∀ {n : Nat}, (∃ t, t < n ∧ ok t = true) → ∃ t, t < n ∧ ok t = true ∧ morTo mx ok val n = val t
  | 0, h => by obtain ⟨t, ht, _⟩ := h; omega
  | n + 1, h => by
    simp only [morTo]
    have hb := mor_bd (mx := mx) (ok := ok) hv n
    have hvn := hv n
    by_cases hn : ok n = true
    · rw [if_pos hn]
      by_cases hx : ∃ t, t < n ∧ ok t = true
      · obtain ⟨t, h1, h2, h3⟩ := morTo_is (mx := mx) (n := n) hv hx
        rw [h3]
        cases mx with
        | true =>
          simp only [if_true]
          by_cases hc : val t ≤ val n
          · exact ⟨n, by omega, hn, by omega⟩
          · exact ⟨t, by omega, h2, by omega⟩
        | false =>
          simp only [Bool.false_eq_true, if_false]
          by_cases hc : val t ≤ val n
          · exact ⟨t, by omega, h2, by omega⟩
          · exact ⟨n, by omega, hn, by omega⟩
      · have h0 : ∀ m, m ≤ n → morTo mx ok val m = if mx = true then -2147483648 else 2147483648 := fun m hm => by
          induction m with
          | zero => rfl
          | succ m ih =>
            simp only [morTo]
            rw [if_neg (fun e => hx ⟨m, by omega, e⟩), ih (by omega)]
        refine ⟨n, by omega, hn, ?_⟩
        rw [h0 n (Nat.le_refl _)]
        cases mx with
        | true => simp only [if_true]; omega
        | false => simp only [Bool.false_eq_true, if_false]; omega
    · rw [if_neg hn]
      obtain ⟨t, h1, h2⟩ := h
      have : t ≠ n := fun e => hn (e ▸ h2)
      obtain ⟨u, h3, h4, h5⟩ := morTo_is (mx := mx) (n := n) hv ⟨t, by omega, h2⟩
      exact ⟨u, by omega, h4, h5⟩

section
variable {pw ph s : Nat} {xs : List Int}
def fullB (s : Nat) : List Bool := List.replicate ((2 * s + 1) * (2 * s + 1)) true
theorem shIn_full {s t : Nat} (ht : t < (2 * s + 1) * (2 * s + 1)) : shIn (fullB s) t = true := by
  unfold shIn fullB
  rw [List.getElem?_replicate, if_pos ht]; rfl

/-- The number of the shift that leads from (x, y) to a pixel of the window. -/
theorem shift_to {x y u v : Int} (sg : Int) (hs : sg = 1 ∨ sg = -1) (h1 : -(s : Int) ≤ u - x) (h2 : u - x ≤ s) (h3 : -(s : Int) ≤ v - y) (h4 : v - y ≤ s) :
    ∃ t, t < (2 * s + 1) * (2 * s + 1) ∧ morU sg (2 * s + 1) x t = u ∧ morV sg (2 * s + 1) (2 * s + 1) y t = v := by
  have hh : (2 * s + 1) / 2 = s := by omega
  rcases hs with rfl | rfl
  · obtain ⟨a, ha⟩ : ∃ a : Nat, (a : Int) = u - x + s := ⟨(u - x + s).toNat, by omega⟩
    obtain ⟨b, hb⟩ : ∃ b : Nat, (b : Int) = v - y + s := ⟨(v - y + s).toNat, by omega⟩
    refine ⟨b * (2 * s + 1) + a, idx_bound (by omega) (by omega), ?_, ?_⟩
    · unfold morU; rw [idx_mod b (by omega), hh]; omega
    · unfold morV; rw [idx_div b (by omega), hh]; omega
  · obtain ⟨a, ha⟩ : ∃ a : Nat, (a : Int) = x - u + s := ⟨(x - u + s).toNat, by omega⟩
    obtain ⟨b, hb⟩ : ∃ b : Nat, (b : Int) = y - v + s := ⟨(y - v + s).toNat, by omega⟩
    refine ⟨b * (2 * s + 1) + a, idx_bound (by omega) (by omega), ?_, ?_⟩
    · unfold morU; rw [idx_mod b (by omega), hh]; omega
    · unfold morV; rw [idx_div b (by omega), hh]; omega
theorem shift_bd (s t : Nat) (ht : t < (2 * s + 1) * (2 * s + 1)) : -(s : Int) ≤ ((t % (2 * s + 1) : Nat) : Int) - s ∧ ((t % (2 * s + 1) : Nat) : Int) - s ≤ s ∧ -(s : Int) ≤ ((t / (2 * s + 1) : Nat) : Int) - s ∧ ((t / (2 * s + 1) : Nat) : Int) - s ≤ s := by
  have h1 := Nat.mod_lt t (show 0 < 2 * s + 1 by omega)
  have h2 : t / (2 * s + 1) < 2 * s + 1 := Nat.div_lt_of_lt_mul ht
  generalize t % (2 * s + 1) = a at *
  generalize t / (2 * s + 1) = b at *
  omega

/-- Each pixel that counts is met by a shift, and each shift meets a pixel that counts. -/
theorem win_shift (mx : Bool) {x y : Int} (hx : 0 ≤ x) (hx2 : x < pw) (hy : 0 ≤ y) (hy2 : y < ph) {t : Nat} (ht : t < (2 * s + 1) * (2 * s + 1)) (hok : morOk (morSg mx) pw ph (2 * s + 1) (2 * s + 1) (fullB s) x y t = true) :
    ∃ u, u < (2 * s + 1) * (2 * s + 1) ∧ spB pw ph xs s x y u = morVal (morSg mx) pw xs (2 * s + 1) (2 * s + 1) x y t := by
  simp only [morOk, Bool.and_eq_true, inR_true] at hok
  obtain ⟨_, ⟨u1, u2⟩, v1, v2⟩ := hok
  have hb := shift_bd s t ht
  have hh : (2 * s + 1) / 2 = s := by omega
  have hsg : morSg mx = 1 ∨ morSg mx = -1 := by unfold morSg; split <;> simp
  have e1 : -(s : Int) ≤ morU (morSg mx) (2 * s + 1) x t - x ∧ morU (morSg mx) (2 * s + 1) x t - x ≤ s := by
    unfold morU; rw [hh]; rcases hsg with h | h <;> rw [h] <;> omega
  have e2 : -(s : Int) ≤ morV (morSg mx) (2 * s + 1) (2 * s + 1) y t - y ∧ morV (morSg mx) (2 * s + 1) (2 * s + 1) y t - y ≤ s := by
    unfold morV; rw [hh]; rcases hsg with h | h <;> rw [h] <;> omega
  obtain ⟨u, hu, a1, a2⟩ := shift_to (s := s) (x := x) (y := y) 1 (.inl rfl) e1.1 e1.2 e2.1 e2.2
  refine ⟨u, hu, ?_⟩
  have b1 : x + (((u % (2 * s + 1) : Nat) : Int) - (s : Int)) = morU (morSg mx) (2 * s + 1) x t := by rw [← a1]; unfold morU; rw [hh]; omega
  have b2 : y + (((u / (2 * s + 1) : Nat) : Int) - (s : Int)) = morV (morSg mx) (2 * s + 1) (2 * s + 1) y t := by rw [← a2]; unfold morV; rw [hh]; omega
  unfold spB morVal
  rw [b1, b2, beyF_in (by simp only [Bool.and_eq_true, inR_true]; exact ⟨⟨u1, u2⟩, v1, v2⟩)]
theorem shift_win (mx : Bool) {x y : Int} (hx : 0 ≤ x) (hx2 : x < pw) (hy : 0 ≤ y) (hy2 : y < ph) {u : Nat} (hu : u < (2 * s + 1) * (2 * s + 1)) :
    ∃ t, t < (2 * s + 1) * (2 * s + 1) ∧ morOk (morSg mx) pw ph (2 * s + 1) (2 * s + 1) (fullB s) x y t = true ∧ morVal (morSg mx) pw xs (2 * s + 1) (2 * s + 1) x y t = spB pw ph xs s x y u := by
  have hb := shift_bd s u hu
  have hsg : morSg mx = 1 ∨ morSg mx = -1 := by unfold morSg; split <;> simp
  obtain ⟨U, hU⟩ : ∃ U, clamp (x + (((u % (2 * s + 1) : Nat) : Int) - (s : Int))) 0 ((pw : Int) - 1) = U := ⟨_, rfl⟩
  obtain ⟨V, hV⟩ : ∃ V, clamp (y + (((u / (2 * s + 1) : Nat) : Int) - (s : Int))) 0 ((ph : Int) - 1) = V := ⟨_, rfl⟩
  have c1 : 0 ≤ U ∧ U ≤ (pw : Int) - 1 ∧ -(s : Int) ≤ U - x ∧ U - x ≤ s := by rw [← hU]; unfold clamp; omega
  have c2 : 0 ≤ V ∧ V ≤ (ph : Int) - 1 ∧ -(s : Int) ≤ V - y ∧ V - y ≤ s := by rw [← hV]; unfold clamp; omega
  obtain ⟨t, ht, a1, a2⟩ := shift_to (s := s) (x := x) (y := y) (morSg mx) hsg c1.2.2.1 c1.2.2.2 c2.2.2.1 c2.2.2.2
  refine ⟨t, ht, ?_, ?_⟩
  · simp only [morOk, Bool.and_eq_true, inR_true]
    rw [a1, a2]
    exact ⟨shIn_full ht, ⟨c1.1, c1.2.1⟩, c2.1, c2.2.1⟩
  · unfold morVal spB
    rw [a1, a2, beyF_2, hU, hV]

theorem win_centre (mx : Bool) {x y : Int} (hx : 0 ≤ x) (hx2 : x < pw) (hy : 0 ≤ y) (hy2 : y < ph) : ∃ t, t < (2 * s + 1) * (2 * s + 1) ∧ morOk (morSg mx) pw ph (2 * s + 1) (2 * s + 1) (fullB s) x y t = true := by
  have h0 : 0 < (2 * s + 1) * (2 * s + 1) := Nat.mul_pos (by omega) (by omega)
  obtain ⟨t, h1, h2, _⟩ := shift_win (xs := []) (s := s) mx hx hx2 hy hy2 h0
  exact ⟨t, h1, h2⟩

/-- The least value that a change allows. -/
theorem spread_lo (hxs : allIn (-2147483648) 2147483648 xs = true) {x y : Int} (hx : 0 ≤ x) (hx2 : x < pw) (hy : 0 ≤ y) (hy2 : y < ph) {g : Int} (hg : 0 ≤ g) (a : Int) :
    spV g a (morG false pw ph xs (2 * s + 1) (2 * s + 1) (fullB s) x y) = spLo (fun t => spV g a (spB pw ph xs s x y t)) ((2 * s + 1) * (2 * s + 1)) := by
  have hv : ∀ t, -2147483648 ≤ morVal (morSg false) pw xs (2 * s + 1) (2 * s + 1) x y t ∧ morVal (morSg false) pw xs (2 * s + 1) (2 * s + 1) x y t ≤ 2147483648 := fun t => px_bd hxs _
  refine Int.le_antisymm (le_spLo.2 ⟨(spV_bd _ _ _).2, fun u hu => ?_⟩) ?_
  · obtain ⟨t, h1, h2, h3⟩ := shift_win (xs := xs) false hx hx2 hy hy2 hu
    rw [← h3]
    exact spV_mono hg ((le_mor.1 (Int.le_refl (morG false pw ph xs (2 * s + 1) (2 * s + 1) (fullB s) x y))).2 t h1 h2)
  · obtain ⟨t, h1, h2, h3⟩ := morTo_is (mx := false) hv (win_centre (s := s) false hx hx2 hy hy2)
    obtain ⟨u, h4, h5⟩ := win_shift (xs := xs) false hx hx2 hy hy2 h1 h2
    show _ ≤ spV g a (morTo false _ _ _)
    rw [h3, ← h5]
    exact (le_spLo.1 (Int.le_refl _)).2 u h4
/-- The greatest value that a change allows. -/
theorem spread_hi (hxs : allIn (-2147483648) 2147483648 xs = true) {x y : Int} (hx : 0 ≤ x) (hx2 : x < pw) (hy : 0 ≤ y) (hy2 : y < ph) {g : Int} (hg : 0 ≤ g) (a : Int) :
    spV g a (morG true pw ph xs (2 * s + 1) (2 * s + 1) (fullB s) x y) = spHi (fun t => spV g a (spB pw ph xs s x y t)) ((2 * s + 1) * (2 * s + 1)) := by
  have hv : ∀ t, -2147483648 ≤ morVal (morSg true) pw xs (2 * s + 1) (2 * s + 1) x y t ∧ morVal (morSg true) pw xs (2 * s + 1) (2 * s + 1) x y t ≤ 2147483648 := fun t => px_bd hxs _
  refine Int.le_antisymm ?_ (spHi_le.2 ⟨(spV_bd _ _ _).1, fun u hu => ?_⟩)
  · obtain ⟨t, h1, h2, h3⟩ := morTo_is (mx := true) hv (win_centre (s := s) true hx hx2 hy hy2)
    obtain ⟨u, h4, h5⟩ := win_shift (xs := xs) true hx hx2 hy hy2 h1 h2
    show spV g a (morTo true _ _ _) ≤ _
    rw [h3, ← h5]
    exact (spHi_le.1 (Int.le_refl _)).2 u h4
  · obtain ⟨t, h1, h2, h3⟩ := shift_win (xs := xs) true hx hx2 hy hy2 hu
    rw [← h3]
    exact spV_mono hg ((mor_le.1 (Int.le_refl (morG true pw ph xs (2 * s + 1) (2 * s + 1) (fullB s) x y))).2 t h1 h2)
/-- Each bound is taken by a shift. -/
theorem spLo_is {f : Nat → Int} (hf : ∀ t, f t ≤ 255) : ∀ {n : Nat}, 0 < n → ∃ t, t < n ∧ spLo f n = f t
  | 0, h => by omega
  | n + 1, _ => by
    simp only [spLo]
    by_cases h0 : n = 0
    · subst h0
      exact ⟨0, by omega, by have := hf 0; simp only [spLo]; omega⟩
    · obtain ⟨t, h1, h2⟩ := spLo_is hf (n := n) (by omega)
      rw [h2]
      by_cases hc : f t ≤ f n
      · exact ⟨t, by omega, by omega⟩
      · exact ⟨n, by omega, by omega⟩
theorem spHi_is {f : Nat → Int} (hf : ∀ t, 0 ≤ f t) : ∀ {n : Nat}, 0 < n → ∃ t, t < n ∧ spHi f n = f t
  | 0, h => by omega
  | n + 1, _ => by
    simp only [spHi]
    by_cases h0 : n = 0
    · subst h0
      exact ⟨0, by omega, by have := hf 0; simp only [spHi]; omega⟩
    · obtain ⟨t, h1, h2⟩ := spHi_is hf (n := n) (by omega)
      rw [h2]
      by_cases hc : f t ≤ f n
      · exact ⟨n, by omega, by omega⟩
      · exact ⟨t, by omega, by omega⟩
end

end Go.Proofs.Ytbfigbpjoaccdaa
