/- Distances and basins, by the neighbours that the law package lists: plain. -/
import Derived.Test.YtjglfeonoiljlaaNbrs
import Derived.Test.YtjglfeonoiljlaaBas
namespace Go.Proofs.Ytjglfeonoiljlaa
set_option linter.unusedVariables false
set_option linter.unusedSimpArgs false

theorem nbrL_length (pw ph i : Nat) : (nbrL pw ph i).length ≤ 4 := by
  unfold nbrL
  simp only [List.length_append]
  split <;> split <;> split <;> split <;> simp

variable {pw ph : Nat} {z : Nat → Bool}

/-! ### Distances -/

theorem nearest_none (h : ∀ k, k < pw * ph → z k = false) (i : Nat) : nearest pw ph z i = (pw : Int) + ph := by
  unfold nearest
  rcases nearTo_cases pw ph z i (pw * ph) with hc | ⟨k, h1, h2, _⟩
  · exact hc
  · rw [h k h1] at h2; cases h2
theorem nearest_near {i : Nat} (hi : i < pw * ph) (hz : ∃ k, k < pw * ph ∧ z k = true) : ∃ k, k < pw * ph ∧ z k = true ∧ nearest pw ph z i = (l1 pw k i : Nat) := by
  unfold nearest
  rcases nearTo_cases pw ph z i (pw * ph) with hc | h
  · obtain ⟨k, hk, hzk⟩ := hz
    have h1 := nearTo_le (pw := pw) (ph := ph) (i := i) hk hzk
    have hpw : 0 < pw := Nat.pos_of_ne_zero (by rintro rfl; simp at hi)
    have a1 := Nat.mod_lt i hpw
    have a2 := Nat.mod_lt k hpw
    have a3 : i / pw < ph := Nat.div_lt_of_lt_mul hi
    have a4 : k / pw < ph := Nat.div_lt_of_lt_mul hk
    rw [hc] at h1
    unfold l1 dX dY at h1
    generalize i % pw = x at *
    generalize i / pw = y at *
    generalize k % pw = u at *
    generalize k / pw = v at *
    omega
  · exact h
theorem nearest_pos (i : Nat) : 0 ≤ nearest pw ph z i := nearTo_pos pw ph z i _
theorem nearest_zero_iff {i : Nat} (hi : i < pw * ph) (hz : ∃ k, k < pw * ph ∧ z k = true) : nearest pw ph z i = 0 ↔ z i = true := by
  constructor
  · intro h
    obtain ⟨k, hk, hzk, e⟩ := nearest_near hi hz
    have : l1 pw k i = 0 := by omega
    rw [← l1_zero pw this]; exact hzk
  · exact nearest_zero hi
theorem nearest_nbr {i j : Nat} (hi : i < pw * ph) (hj : j ∈ nbrL pw ph i) : nearest pw ph z i - nearest pw ph z j ≤ 1 ∧ -1 ≤ nearest pw ph z i - nearest pw ph z j := by
  have h := nearB_four.1 (nbrL_near hi hj).2
  have h1 := nearest_step (ph := ph) (z := z) h
  have h2 := nearest_step (ph := ph) (z := z) (show l1 pw j i = 1 by rw [l1_comm]; exact h)
  omega
theorem nearest_nearer {i : Nat} (hi : i < pw * ph) (hz : ∃ k, k < pw * ph ∧ z k = true) (h0 : nearest pw ph z i ≠ 0) : ∃ j, j ∈ nbrL pw ph i ∧ nearest pw ph z i - nearest pw ph z j = 1 := by
  obtain ⟨k, hk, hzk, e⟩ := nearest_near hi hz
  rw [l1_comm] at e
  obtain ⟨d, hd⟩ : ∃ d, l1 pw i k = d + 1 := ⟨l1 pw i k - 1, by omega⟩
  obtain ⟨j, hj, h1, h2⟩ := step_toward hi hk hd
  refine ⟨j, near_nbrL hi hj (nearB_four.2 h1), ?_⟩
  have h3 := nearest_step (ph := ph) (z := z) (show l1 pw j i = 1 by rw [l1_comm]; exact h1)
  have h4 : nearest pw ph z j ≤ (l1 pw k j : Nat) := nearTo_le hk hzk
  rw [l1_comm] at h4
  omega

/-- Whether one of the first k pixels is one of these. -/
def anyTo (z : Nat → Bool) : Nat → Bool
  | 0 => false
  | k + 1 => anyTo z k || z k
theorem anyTo_iff {k : Nat} : anyTo z k = true ↔ ∃ j, j < k ∧ z j = true := by
  induction k with
  | zero => simp [anyTo]
  | succ k ih =>
    simp only [anyTo, Bool.or_eq_true, ih]
    constructor
    · rintro (⟨j, h1, h2⟩ | h)
      · exact ⟨j, by omega, h2⟩
      · exact ⟨k, by omega, h⟩
    · rintro ⟨j, h1, h2⟩
      by_cases e : j = k
      · subst e; exact .inr h2
      · exact .inl ⟨j, by omega, h2⟩

/-- Whether the pixel itself, or one of the first k of a list, is nearer by 1. -/
def nearerTo (d : Nat → Int) (i : Nat) (l : List Nat) (k : Nat) : Bool := decide (d i = 0) || (l.take k).any fun j => decide (d i - d j = 1)
theorem nearerTo_zero (d : Nat → Int) (i : Nat) (l : List Nat) : nearerTo d i l 0 = decide (d i = 0) := by simp [nearerTo]
theorem nearerTo_succ (d : Nat → Int) (i : Nat) (l : List Nat) {k j : Nat} (h : l[k]? = some j) : nearerTo d i l (k + 1) = (nearerTo d i l k || decide (d i - d j = 1)) := by
  have : l.take (k + 1) = l.take k ++ [j] := by rw [List.take_add_one, h]; rfl
  simp only [nearerTo, this, List.any_append, List.any_cons, List.any_nil, Bool.or_false, Bool.or_assoc]
theorem nearerTo_all {i : Nat} (hi : i < pw * ph) (hz : ∃ k, k < pw * ph ∧ z k = true) : nearerTo (nearest pw ph z) i (nbrL pw ph i) (nbrL pw ph i).length = true := by
  unfold nearerTo
  rw [List.take_length]
  by_cases h0 : nearest pw ph z i = 0
  · simp [h0]
  · obtain ⟨j, h1, h2⟩ := nearest_nearer hi hz h0
    simp only [Bool.or_eq_true, List.any_eq_true, decide_eq_true_eq]
    exact .inr ⟨j, h1, h2⟩

/-! ### Basins -/

variable {m : Nat → Int}
theorem lowL_nbrL {i : Nat} (hi : i < pw * ph) : lowL m i (nbrL pw ph i) = lowest pw ph m i := by
  have h1 := lowL_isLow m i (nbrL pw ph i)
  have h2 := lowest_isLow pw ph m i
  refine IsLow.unique h1 ?_
  have e : (fun c => c < pw * ph ∧ nearB pw false i c = true) = fun c => c ∈ nbrL pw ph i := by
    funext c
    exact propext ⟨fun h => near_nbrL hi h.1 h.2, fun h => nbrL_near hi h⟩
  rw [← e]; exact h2
def lowAt (m : Nat → Int) (i : Nat) (l : List Nat) (k : Nat) : Nat := lowL m i (l.take k)
theorem lowAt_zero (m : Nat → Int) (i : Nat) (l : List Nat) : lowAt m i l 0 = i := by simp [lowAt, lowL]
theorem lowAt_succ (m : Nat → Int) (i : Nat) (l : List Nat) {k j : Nat} (h : l[k]? = some j) : lowAt m i l (k + 1) = if better m (lowAt m i l k) j = true then j else lowAt m i l k := by
  have : l.take (k + 1) = l.take k ++ [j] := by rw [List.take_add_one, h]; rfl
  unfold lowAt
  rw [this, lowL_snoc]
theorem lowAt_all {i : Nat} (hi : i < pw * ph) : lowAt m i (nbrL pw ph i) (nbrL pw ph i).length = lowest pw ph m i := by
  unfold lowAt
  rw [List.take_length, lowL_nbrL hi]
theorem lowL_ltN {N : Nat} : ∀ (l : List Nat) (i : Nat), i < N → (∀ j ∈ l, j < N) → lowL m i l < N
  | [], i, hi, _ => hi
  | j :: l, i, hi, h => by
    show lowL m (if better m i j = true then j else i) l < N
    refine lowL_ltN l _ ?_ fun k hk => h k (List.mem_cons_of_mem _ hk)
    split
    · exact h j List.mem_cons_self
    · exact hi
theorem lowAt_lt {i : Nat} (hi : i < pw * ph) (k : Nat) : lowAt m i (nbrL pw ph i) k < pw * ph :=
  lowL_ltN _ _ hi fun j hj => (nbrL_near hi (List.mem_of_mem_take hj)).1

theorem basinL_px {i : Nat} (hi : i < pw * ph) : px (basinL pw ph m) i = ((endsTo pw ph m (rootF pw ph m i + 1) : Nat) : Int) := by
  unfold basinL
  exact px_map_range _ hi
theorem basinL_low (hm : ∀ k, -2147483648 ≤ m k) {i : Nat} (hi : i < pw * ph) : px (basinL pw ph m) i = px (basinL pw ph m) (lowest pw ph m i) := by
  rw [basinL_px hi, basinL_px (lowest_lt hi), rootF_step hm hi]
theorem basinL_end {i : Nat} (hi : i < pw * ph) (h : lowest pw ph m i = i) : px (basinL pw ph m) i = ((endsTo pw ph m i + 1 : Nat) : Int) := by
  rw [basinL_px hi, rootF_end h, ends_end h]

end Go.Proofs.Ytjglfeonoiljlaa
