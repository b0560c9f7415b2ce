/- Convolutions and compositions, in plain numbers: remainders from 0 on, sums over two kernels exchanged. No program in sight. -/
import Derived.Test.YtbfigbpjoaccdaaLow
namespace Go.Proofs.Ytbfigbpjoaccdaa
set_option linter.unusedVariables false
set_option linter.unusedSimpArgs false

theorem rest_emod (a b : Int) (hb : 1 ≤ b) : (a.tmod b + b).tmod b = a % b := by
  have h1 : 0 ≤ a % b := Int.emod_nonneg _ (by omega)
  have h2 : a % b < b := Int.emod_lt_of_pos _ (by omega)
  have h3 : a.tmod b = a % b ∨ a.tmod b = a % b - b := by
    rw [Int.tmod_eq_emod]
    split
    · left; omega
    · right; omega
  rcases h3 with h | h
  · rw [h, Int.tmod_eq_emod_of_nonneg (by omega), Int.add_emod_right, Int.emod_emod_of_dvd _ (Int.dvd_refl b)]
  · rw [h, show a % b - b + b = a % b by omega, Int.tmod_eq_emod_of_nonneg h1, Int.emod_emod_of_dvd _ (Int.dvd_refl b)]

theorem sumTo_congr {f g : Nat → Int} {n : Nat} (h : ∀ i, i < n → f i = g i) : sumTo f n = sumTo g n := by
  induction n with
  | zero => rfl
  | succ n ih => simp only [sumTo]; rw [ih fun i hi => h i (by omega), h n (by omega)]

/-- A sum with one term that is not 0. -/
theorem sumTo_one {f : Nat → Int} {n u : Nat} (h : ∀ i, i < n → i ≠ u → f i = 0) : sumTo f n = if u < n then f u else 0 := by
  induction n with
  | zero => simp [sumTo]
  | succ n ih =>
    simp only [sumTo]
    rw [ih fun i hi hne => h i (by omega) hne]
    by_cases e : n = u
    · subst e; rw [if_neg (by omega), if_pos (by omega)]; omega
    · rw [h n (by omega) e]
      by_cases hlt : u < n
      · rw [if_pos hlt, if_pos (by omega)]; omega
      · rw [if_neg hlt, if_neg (by omega)]; omega

/-! ### The table of a composition -/

/-- What has come to entry p, when the first factors up to s have met all second ones, and s has met those up to u. -/
def conS (pos : Nat → Nat → Nat) (f : Nat → Nat → Int) (bn s u p : Nat) : Int :=
  sumTo (fun s' => sumTo (fun u' => if pos s' u' = p then f s' u' else 0) bn) s + sumTo (fun u' => if pos s u' = p then f s u' else 0) u
def conL (pos : Nat → Nat → Nat) (f : Nat → Nat → Int) (bn N s u : Nat) : List Int := (List.range N).map (conS pos f bn s u)

theorem conL_length (pos : Nat → Nat → Nat) (f : Nat → Nat → Int) (bn N s u : Nat) : (conL pos f bn N s u).length = N := by simp [conL]
theorem conL_zero (pos : Nat → Nat → Nat) (f : Nat → Nat → Int) (bn N : Nat) : conL pos f bn N 0 0 = List.replicate N 0 := by
  unfold conL conS
  simp [sumTo, List.map_const']
theorem conL_next (pos : Nat → Nat → Nat) (f : Nat → Nat → Int) (bn N s : Nat) : conL pos f bn N s bn = conL pos f bn N (s + 1) 0 := by
  unfold conL
  refine List.map_congr_left fun p _ => ?_
  simp only [conS, sumTo]
  omega
theorem conL_set (pos : Nat → Nat → Nat) (f : Nat → Nat → Int) (bn N s u : Nat) (h : pos s u < N) : (conL pos f bn N s u).set (pos s u) (conS pos f bn s u (pos s u) + f s u) = conL pos f bn N s (u + 1) := by
  refine List.ext_getElem? fun j => ?_
  rw [List.getElem?_set]
  by_cases hj : pos s u = j
  · subst hj
    rw [if_pos rfl, conL_length, if_pos h]
    unfold conL
    rw [List.getElem?_map, List.getElem?_range h, Option.map_some]
    congr 1
    simp only [conS, sumTo, if_true]
    omega
  · rw [if_neg hj]
    by_cases hjn : j < N
    · unfold conL
      rw [List.getElem?_map, List.getElem?_map, List.getElem?_range hjn, Option.map_some, Option.map_some]
      congr 1
      simp only [conS, sumTo, if_neg hj]
      omega
    · rw [List.getElem?_eq_none (by rw [conL_length]; omega), List.getElem?_eq_none (by rw [conL_length]; omega)]
theorem conL_at (pos : Nat → Nat → Nat) (f : Nat → Nat → Int) (bn N s u : Nat) {p : Nat} (h : p < N) : (conL pos f bn N s u)[p]? = some (conS pos f bn s u p) := by
  unfold conL
  rw [List.getElem?_map, List.getElem?_range h, Option.map_some]

def kpos (aw bw s u : Nat) : Nat := (s / aw + u / bw) * (aw + bw - 1) + s % aw + u % bw

theorem kpos_lt {aw ah bw bh s u : Nat} (hs : s < aw * ah) (hu : u < bw * bh) : kpos aw bw s u < (aw + bw - 1) * (ah + bh - 1) := by
  have ha : 0 < aw := Nat.pos_of_ne_zero (by rintro rfl; simp at hs)
  have hb : 0 < bw := Nat.pos_of_ne_zero (by rintro rfl; simp at hu)
  have h1 : s % aw < aw := Nat.mod_lt _ ha
  have h2 : u % bw < bw := Nat.mod_lt _ hb
  have h3 : s / aw < ah := Nat.div_lt_of_lt_mul hs
  have h4 : u / bw < bh := Nat.div_lt_of_lt_mul hu
  unfold kpos
  rw [Nat.add_assoc]
  exact idx_bound (by omega) (by omega)

/-- The factor of the second kernel that meets factor s of the first one at entry p. -/
def conTerm (aw bw bh : Nat) (a b : Nat → Int) (p s : Nat) : Int :=
  if (s % aw ≤ p % (aw + bw - 1) ∧ p % (aw + bw - 1) ≤ s % aw + (bw - 1)) ∧ (s / aw ≤ p / (aw + bw - 1) ∧ p / (aw + bw - 1) ≤ s / aw + (bh - 1)) then a s * b ((p / (aw + bw - 1) - s / aw) * bw + (p % (aw + bw - 1) - s % aw)) else 0

theorem con_term {aw bw bh : Nat} (ha : 0 < aw) (hb : 0 < bw) (hbh : 0 < bh) (a b : Nat → Int) (p s : Nat) :
    sumTo (fun u => if kpos aw bw s u = p then a s * b u else 0) (bw * bh) = conTerm aw bw bh a b p s := by
  have h1 : s % aw < aw := Nat.mod_lt _ ha
  have hp := idx_split (aw + bw - 1) p
  have hpx : p % (aw + bw - 1) < aw + bw - 1 := Nat.mod_lt _ (by omega)
  have hk : ∀ u, kpos aw bw s u = p ↔ s % aw + u % bw = p % (aw + bw - 1) ∧ s / aw + u / bw = p / (aw + bw - 1) := by
    intro u
    have h2 : u % bw < bw := Nat.mod_lt _ hb
    constructor
    · intro h
      unfold kpos at h
      rw [Nat.add_assoc] at h
      have e1 := idx_mod (w := aw + bw - 1) (x := s % aw + u % bw) (s / aw + u / bw) (by omega)
      have e2 := idx_div (w := aw + bw - 1) (x := s % aw + u % bw) (s / aw + u / bw) (by omega)
      rw [h] at e1 e2
      exact ⟨e1.symm, e2.symm⟩
    · rintro ⟨e1, e2⟩
      unfold kpos
      rw [Nat.add_assoc, e1, e2, hp]
  unfold conTerm
  by_cases hc : (s % aw ≤ p % (aw + bw - 1) ∧ p % (aw + bw - 1) ≤ s % aw + (bw - 1)) ∧ (s / aw ≤ p / (aw + bw - 1) ∧ p / (aw + bw - 1) ≤ s / aw + (bh - 1))
  · rw [if_pos hc]
    obtain ⟨⟨c1, c2⟩, c3, c4⟩ := hc
    have hu := idx_bound (w := bw) (h := bh) (x := p % (aw + bw - 1) - s % aw) (y := p / (aw + bw - 1) - s / aw) (by omega) (by omega)
    have m1 := idx_mod (w := bw) (x := p % (aw + bw - 1) - s % aw) (p / (aw + bw - 1) - s / aw) (by omega)
    have m2 := idx_div (w := bw) (x := p % (aw + bw - 1) - s % aw) (p / (aw + bw - 1) - s / aw) (by omega)
    rw [sumTo_one (u := (p / (aw + bw - 1) - s / aw) * bw + (p % (aw + bw - 1) - s % aw))]
    · rw [if_pos hu, if_pos]
      refine (hk _).2 ⟨?_, ?_⟩
      · rw [m1]; exact Nat.add_sub_cancel' c1
      · rw [m2]; exact Nat.add_sub_cancel' c3
    · intro i hi hne
      refine if_neg fun h => hne ?_
      obtain ⟨e1, e2⟩ := (hk i).1 h
      rw [← e1, ← e2, Nat.add_sub_cancel_left, Nat.add_sub_cancel_left, idx_split]
  · rw [if_neg hc]
    rw [sumTo_congr (g := fun _ => 0)]
    · exact sumTo_zero (fun _ => rfl) _
    · intro i hi
      refine if_neg fun h => hc ?_
      obtain ⟨e1, e2⟩ := (hk i).1 h
      have h2 : i % bw < bw := Nat.mod_lt _ hb
      have h3 : i / bw < bh := Nat.div_lt_of_lt_mul hi
      generalize i % bw = x at *
      generalize i / bw = y at *
      generalize s % aw = i' at *
      generalize s / aw = j' at *
      generalize p % (aw + bw - 1) = px at *
      generalize p / (aw + bw - 1) = py at *
      omega

/-- The entry of a composition, before it is brought into the range. -/
def conF (aw ah bw bh : Nat) (a b : Nat → Int) (p : Nat) : Int := sumTo (conTerm aw bw bh a b p) (aw * ah)

theorem con_all {aw ah bw bh : Nat} (ha : 0 < aw) (hb : 0 < bw) (hbh : 0 < bh) (a b : Nat → Int) (p : Nat) :
    conS (kpos aw bw) (fun s u => a s * b u) (bw * bh) (aw * ah) 0 p = conF aw ah bw bh a b p := by
  unfold conS conF
  rw [sumTo_congr (g := conTerm aw bw bh a b p) fun s _ => con_term ha hb hbh a b p s]
  simp [sumTo]

theorem conS_bd {pos : Nat → Nat → Nat} {f : Nat → Nat → Int} {bn s u p : Nat} (hf : ∀ s u, -4294967296 ≤ f s u ∧ f s u ≤ 4294967296) (hb : bn ≤ 25) (hs : s ≤ 25) (hu : u ≤ 25) :
    -4611686018427387904 ≤ conS pos f bn s u p ∧ conS pos f bn s u p ≤ 4611686018427387904 := by
  have h1 : ∀ s, ∀ i, -4294967296 ≤ (if pos s i = p then f s i else 0) ∧ (if pos s i = p then f s i else 0) ≤ 4294967296 := by
    intro s i
    have := hf s i
    split <;> omega
  have h2 := sumTo_bd (f := fun u' => if pos s u' = p then f s u' else 0) (B := 4294967296) (k := u) fun i _ => h1 s i
  have h3 : ∀ s', -107374182400 ≤ sumTo (fun u' => if pos s' u' = p then f s' u' else 0) bn ∧ sumTo (fun u' => if pos s' u' = p then f s' u' else 0) bn ≤ 107374182400 := by
    intro s'
    have := sumTo_bd (f := fun u' => if pos s' u' = p then f s' u' else 0) (B := 4294967296) (k := bn) fun i _ => h1 s' i
    omega
  have h4 := sumTo_bd (f := fun s' => sumTo (fun u' => if pos s' u' = p then f s' u' else 0) bn) (B := 107374182400) (k := s) fun i _ => h3 i
  unfold conS
  omega

end Go.Proofs.Ytbfigbpjoaccdaa
