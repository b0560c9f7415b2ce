/- The contracts of the specification's Source, ValidWarp, Warp, Turn and Flip. -/
import Derived.Test.YtbfigbpjoaccdaaImgE
namespace Go.Proofs.Ytbfigbpjoaccdaa
open Go Go.RowKit Go.Shelf
set_option linter.unusedVariables false
set_option linter.unusedSimpArgs false

/-- A list that is filled up to an index. -/
def upto (f : Nat → Int) (N k : Nat) : List Int := (List.range N).map fun i => if i < k then f i else 0

theorem row_base {W : World} {base base' : Nat} {e : TypeId} {size : Nat} {v : Value} {k : Nat} {xs : List Value} (h : W.ownsRow base e size v k xs) (hb : base' ≤ base) : W.ownsRow base' e size v k xs := by
  refine ⟨h.1, ?_⟩
  rcases h.2 with h3 | ⟨g, cap, cur, e1, e2, r⟩
  · exact .inl h3
  · exact .inr ⟨g, cap, cur, e1, by omega, r⟩

theorem upto_zero (f : Nat → Int) (N : Nat) : upto f N 0 = List.replicate N 0 := by
  refine List.ext_getElem (by simp [upto]) fun i h1 h2 => ?_
  simp [upto]

theorem upto_length (f : Nat → Int) (N k : Nat) : (upto f N k).length = N := by simp [upto]

theorem upto_set (f : Nat → Int) (N k : Nat) (hk : k < N) : (upto f N k).set k (f k) = upto f N (k + 1) := by
  refine List.ext_getElem (by simp [upto]) fun i h1 h2 => ?_
  rw [List.getElem_set]
  by_cases e : k = i
  · subst e; simp [upto]
  · rw [if_neg e]
    simp only [upto, List.getElem_map, List.getElem_range]
    by_cases h : i < k
    · rw [if_pos h, if_pos (by omega)]
    · rw [if_neg h, if_neg (by omega)]

theorem upto_all (f : Nat → Int) (N : Nat) : upto f N N = (List.range N).map f := by
  refine List.ext_getElem (by simp [upto]) fun i h1 h2 => ?_
  have hi : i < N := by simpa [upto] using h1
  simp [upto, hi]

theorem clamp_id {n : Int} (h : -2147483648 ≤ n) (h2 : n ≤ 2147483648) : clamp n (-2147483648) 2147483648 = n := by unfold clamp; omega

theorem img_plain {pw ph : Nat} {g : Int → Int → Int} (h : ∀ i, i < pw * ph → -2147483648 ≤ g (cX pw i) (cY pw i) ∧ g (cX pw i) (cY pw i) ≤ 2147483648) : (List.range (pw * ph)).map (fun i => g (cX pw i) (cY pw i)) = img pw ph g := by
  unfold img
  refine List.map_congr_left fun i hi => ?_
  obtain ⟨h1, h2⟩ := h i (List.mem_range.1 hi)
  exact (clamp_id h1 h2).symm

theorem px_bd {xs : List Int} (h : allIn (-2147483648) 2147483648 xs = true) (i : Int) : -2147483648 ≤ px xs i ∧ px xs i ≤ 2147483648 := by
  unfold px
  rcases Nat.lt_or_ge i.toNat xs.length with h1 | h1
  · rw [List.getElem?_eq_getElem h1]; exact allIn_mem h (List.getElem_mem h1)
  · rw [List.getElem?_eq_none h1]; decide

theorem cX_eq (pw i : Nat) : cX pw i = (i : Int) % (pw : Int) := rfl
theorem cY_eq (pw i : Nat) : cY pw i = (i : Int) / (pw : Int) := rfl
theorem cX_bd {pw i : Nat} (h : 1 ≤ pw) : 0 ≤ cX pw i ∧ cX pw i ≤ pw - 1 := by
  have := Nat.mod_lt i (show 0 < pw by omega)
  unfold cX; omega
theorem cY_bd {pw ph i : Nat} (h : i < pw * ph) : 0 ≤ cY pw i ∧ cY pw i ≤ ph - 1 := by
  have := Nat.div_lt_of_lt_mul h
  unfold cY
  generalize i / pw = q at *
  omega


end Go.Proofs.Ytbfigbpjoaccdaa
