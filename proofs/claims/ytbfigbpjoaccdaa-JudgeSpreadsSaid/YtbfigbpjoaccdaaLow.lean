/- The lowest neighbour of a pixel, and where going on to it ends, in plain numbers. No program in sight. -/
import Derived.Test.YtbfigbpjoaccdaaNear
namespace Go.Proofs.Ytbfigbpjoaccdaa
set_option linter.unusedVariables false
set_option linter.unusedSimpArgs false

/-- Pixel k is lower than pixel b: by its value, then by its index. -/
def better (m : Nat → Int) (b k : Nat) : Bool := decide (m k < m b) || (decide (m k = m b) && decide (k < b))
theorem better_iff {m : Nat → Int} {b k : Nat} : better m b k = true ↔ m k < m b ∨ (m k = m b ∧ k < b) := by simp [better]
theorem better_not {m : Nat → Int} {b k : Nat} : better m b k = false ↔ ¬ (m k < m b ∨ (m k = m b ∧ k < b)) := by rw [← better_iff]; simp

/-- The lowest of i and those of the first k pixels that are its neighbours. -/
def lowTo (pw : Nat) (m : Nat → Int) (i : Nat) : Nat → Nat
  | 0 => i
  | k + 1 => if (nearB pw false i k && better m (lowTo pw m i k) k) = true then k else lowTo pw m i k
def lowest (pw ph : Nat) (m : Nat → Int) (i : Nat) : Nat := lowTo pw m i (pw * ph)

/-- b is the lowest of i and those that s tells. -/
structure IsLow (m : Nat → Int) (i : Nat) (s : Nat → Prop) (b : Nat) : Prop where
  mem : b = i ∨ s b
  least : ∀ c, c = i ∨ s c → better m b c = false

theorem IsLow.unique {m : Nat → Int} {i : Nat} {s : Nat → Prop} {a b : Nat} (ha : IsLow m i s a) (hb : IsLow m i s b) : a = b := by
  have h1 := better_not.1 (ha.least b hb.mem)
  have h2 := better_not.1 (hb.least a ha.mem)
  omega
theorem IsLow.start (m : Nat → Int) (i : Nat) {s : Nat → Prop} (hs : ∀ c, ¬ s c) : IsLow m i s i :=
  ⟨.inl rfl, fun c hc => by
    rcases hc with rfl | hc
    · exact better_not.2 (by omega)
    · exact (hs c hc).elim⟩
theorem IsLow.step {m : Nat → Int} {i : Nat} {s s' : Nat → Prop} {b k : Nat} (h : IsLow m i s b) (hs : ∀ c, s' c ↔ s c ∨ c = k) : IsLow m i s' (if better m b k = true then k else b) := by
  by_cases hk : better m b k = true
  · rw [if_pos hk]
    refine ⟨.inr ((hs k).2 (.inr rfl)), fun c hc => better_not.2 ?_⟩
    have h1 := better_iff.1 hk
    have hc' : (c = i ∨ s c) ∨ c = k := by
      rcases hc with h | h
      · exact .inl (.inl h)
      · rcases (hs c).1 h with h | h
        · exact .inl (.inr h)
        · exact .inr h
    rcases hc' with h2 | h2
    · have := better_not.1 (h.least c h2)
      omega
    · subst h2; omega
  · rw [if_neg hk]
    refine ⟨h.mem.elim .inl fun e => .inr ((hs b).2 (.inl e)), fun c hc => ?_⟩
    rcases hc with h2 | h2
    · exact h.least c (.inl h2)
    · rcases (hs c).1 h2 with h2 | h2
      · exact h.least c (.inr h2)
      · subst h2; simpa using hk

theorem lowTo_isLow (pw : Nat) (m : Nat → Int) (i k : Nat) : IsLow m i (fun c => c < k ∧ nearB pw false i c = true) (lowTo pw m i k) := by
  induction k with
  | zero => exact IsLow.start m i fun c hc => by omega
  | succ k ih =>
    unfold lowTo
    by_cases hn : nearB pw false i k = true
    · rw [hn, Bool.true_and]
      refine ih.step fun c => ⟨fun ⟨h1, h2⟩ => ?_, fun h => ?_⟩
      · by_cases e : c = k
        · exact .inr e
        · exact .inl ⟨by omega, h2⟩
      · rcases h with ⟨h1, h2⟩ | rfl
        · exact ⟨by omega, h2⟩
        · exact ⟨by omega, hn⟩
    · have hn' : nearB pw false i k = false := by simpa using hn
      rw [hn', Bool.false_and, if_neg (by decide)]
      refine ⟨ih.mem.elim .inl fun ⟨h1, h2⟩ => .inr ⟨by omega, h2⟩, fun c hc => ih.least c (hc.elim .inl fun ⟨h1, h2⟩ => .inr ⟨?_, h2⟩)⟩
      by_cases e : c = k
      · subst e; exact (hn h2).elim
      · omega

theorem lowest_isLow (pw ph : Nat) (m : Nat → Int) (i : Nat) : IsLow m i (fun c => c < pw * ph ∧ nearB pw false i c = true) (lowest pw ph m i) := lowTo_isLow pw m i _

theorem lowest_lt {pw ph : Nat} {m : Nat → Int} {i : Nat} (hi : i < pw * ph) : lowest pw ph m i < pw * ph := by
  rcases (lowest_isLow pw ph m i).mem with h | h
  · rw [h]; exact hi
  · exact h.1

/-- The lowest by the list of neighbours. -/
def lowL (m : Nat → Int) (i : Nat) (l : List Nat) : Nat := l.foldl (fun b k => if better m b k = true then k else b) i
theorem lowL_snoc (m : Nat → Int) (i : Nat) (l : List Nat) (k : Nat) : lowL m i (l ++ [k]) = if better m (lowL m i l) k = true then k else lowL m i l := by unfold lowL; rw [List.foldl_append]; rfl
theorem lowL_isLow (m : Nat → Int) (i : Nat) (l : List Nat) : IsLow m i (fun c => c ∈ l) (lowL m i l) := by
  have key : ∀ (n : Nat) (l : List Nat), l.length = n → IsLow m i (fun c => c ∈ l) (lowL m i l) := by
    intro n
    induction n with
    | zero =>
      intro l hl
      rw [List.eq_nil_of_length_eq_zero hl]
      exact IsLow.start m i fun c hc => by simp at hc
    | succ n ih =>
      intro l hl
      have hne : l ≠ [] := by rintro rfl; simp at hl
      rw [← List.dropLast_concat_getLast hne, lowL_snoc]
      refine (ih l.dropLast (by simp [hl])).step fun c => ?_
      simp [List.mem_append]
  exact key _ l rfl
theorem lowL_lowest {pw ph : Nat} {m : Nat → Int} {i : Nat} (hi : i < pw * ph) : lowL m i (nbs pw ph false i) = lowest pw ph m i := by
  refine (lowL_isLow m i _).unique ?_
  have h := lowest_isLow pw ph m i
  refine ⟨h.mem.elim .inl fun ⟨h1, h2⟩ => .inr (near_nbs hi h1 h2), fun c hc => h.least c (hc.elim .inl fun hc => .inr (nbs_near hi hc))⟩

/-! ### Where going on to the lowest neighbour ends -/

/-- A number that falls along the way. -/
def lowKey (N : Nat) (m : Nat → Int) (k : Nat) : Nat := (m k + 2147483648).toNat * N + k

theorem lowKey_lt {pw ph : Nat} {m : Nat → Int} (hm : ∀ k, -2147483648 ≤ m k) {k : Nat} (hk : k < pw * ph) (hne : lowest pw ph m k ≠ k) : lowKey (pw * ph) m (lowest pw ph m k) < lowKey (pw * ph) m k := by
  have hl := lowest_lt (m := m) hk
  have h1 := better_not.1 ((lowest_isLow pw ph m k).least k (.inl rfl))
  have h2 := hm k
  have h3 := hm (lowest pw ph m k)
  unfold lowKey
  generalize lowest pw ph m k = b at *
  generalize pw * ph = N at *
  by_cases e : m b = m k
  · rw [e]; omega
  · have h4 : (m b + 2147483648).toNat + 1 ≤ (m k + 2147483648).toNat := by omega
    have h5 := Nat.mul_le_mul_right N h4
    rw [Nat.add_mul, Nat.one_mul] at h5
    omega

def rootFuel (pw ph : Nat) (m : Nat → Int) : Nat → Nat → Nat
  | 0, k => k
  | f + 1, k => if lowest pw ph m k = k then k else rootFuel pw ph m f (lowest pw ph m k)
def rootF (pw ph : Nat) (m : Nat → Int) (k : Nat) : Nat := rootFuel pw ph m (lowKey (pw * ph) m k + 1) k

theorem rootFuel_more {pw ph : Nat} {m : Nat → Int} (hm : ∀ k, -2147483648 ≤ m k) : ∀ (f f' k : Nat), k < pw * ph → lowKey (pw * ph) m k < f → lowKey (pw * ph) m k < f' → rootFuel pw ph m f k = rootFuel pw ph m f' k
  | 0, _, _, _, h, _ => by omega
  | _, 0, _, _, _, h => by omega
  | f + 1, f' + 1, k, hk, h, h' => by
    unfold rootFuel
    by_cases e : lowest pw ph m k = k
    · rw [if_pos e, if_pos e]
    · rw [if_neg e, if_neg e]
      have := lowKey_lt hm hk e
      exact rootFuel_more hm f f' _ (lowest_lt hk) (by omega) (by omega)

theorem rootF_end {pw ph : Nat} {m : Nat → Int} {k : Nat} (h : lowest pw ph m k = k) : rootF pw ph m k = k := by
  unfold rootF rootFuel
  rw [if_pos h]
theorem rootF_step {pw ph : Nat} {m : Nat → Int} (hm : ∀ k, -2147483648 ≤ m k) {k : Nat} (hk : k < pw * ph) : rootF pw ph m (lowest pw ph m k) = rootF pw ph m k := by
  by_cases e : lowest pw ph m k = k
  · rw [e]
  · have h1 := lowKey_lt hm hk e
    conv => rhs; unfold rootF rootFuel
    rw [if_neg e]
    exact rootFuel_more hm _ _ _ (lowest_lt hk) (by omega) (by omega)

theorem rootFuel_fixed {pw ph : Nat} {m : Nat → Int} (hm : ∀ k, -2147483648 ≤ m k) : ∀ (f k : Nat), k < pw * ph → lowKey (pw * ph) m k < f → rootFuel pw ph m f k < pw * ph ∧ lowest pw ph m (rootFuel pw ph m f k) = rootFuel pw ph m f k
  | 0, _, _, h => by omega
  | f + 1, k, hk, h => by
    unfold rootFuel
    by_cases e : lowest pw ph m k = k
    · rw [if_pos e]; exact ⟨hk, e⟩
    · rw [if_neg e]
      have := lowKey_lt hm hk e
      exact rootFuel_fixed hm f _ (lowest_lt hk) (by omega)
theorem rootF_fixed {pw ph : Nat} {m : Nat → Int} (hm : ∀ k, -2147483648 ≤ m k) {k : Nat} (hk : k < pw * ph) : rootF pw ph m k < pw * ph ∧ lowest pw ph m (rootF pw ph m k) = rootF pw ph m k := rootFuel_fixed hm _ _ hk (by omega)

/-- How many of the first k pixels are their own lowest neighbours. -/
def endsTo (pw ph : Nat) (m : Nat → Int) : Nat → Nat
  | 0 => 0
  | k + 1 => if lowest pw ph m k = k then endsTo pw ph m k + 1 else endsTo pw ph m k
theorem endsTo_le (pw ph : Nat) (m : Nat → Int) (k : Nat) : endsTo pw ph m k ≤ k := by
  induction k with
  | zero => exact Nat.le_refl _
  | succ k ih => unfold endsTo; split <;> omega

/-- The numbers of the basins. -/
def basinL (pw ph : Nat) (m : Nat → Int) : List Int := (List.range (pw * ph)).map fun i => ((endsTo pw ph m (rootF pw ph m i + 1) : Nat) : Int)
/-- The numbers of the pixels that are their own lowest neighbours, of the first k. -/
def endNums (pw ph : Nat) (m : Nat → Int) (k : Nat) : List Int := layTo (fun i => if lowest pw ph m i = i then ((endsTo pw ph m (i + 1) : Nat) : Int) else 0) (pw * ph) k

end Go.Proofs.Ytbfigbpjoaccdaa
