/- The greatest and the least of values that count, in plain numbers. No program in sight. -/
import Derived.Test.YtbfigbpjoaccdaaConv
namespace Go.Proofs.Ytbfigbpjoaccdaa
set_option linter.unusedVariables false
set_option linter.unusedSimpArgs false

/-- The greatest (mx) or least of the values 'val' with numbers below t that count ('ok'). -/
def morTo (mx : Bool) (ok : Nat → Bool) (val : Nat → Int) : Nat → Int
  | 0 => if mx = true then -2147483648 else 2147483648
  | t + 1 => if ok t = true then (if mx = true then max (morTo mx ok val t) (val t) else min (morTo mx ok val t) (val t)) else morTo mx ok val t

theorem mor_le {ok : Nat → Bool} {val : Nat → Int} {n : Nat} {B : Int} : morTo true ok val n ≤ B ↔ -2147483648 ≤ B ∧ ∀ t, t < n → ok t = true → val t ≤ B := by
  induction n with
  | zero =>
    simp only [morTo, if_true]
    exact ⟨fun h => ⟨h, fun t ht => by omega⟩, fun h => h.1⟩
  | succ n ih =>
    simp only [morTo, if_true]
    have key : (∀ t, t < n + 1 → ok t = true → val t ≤ B) ↔ (∀ t, t < n → ok t = true → val t ≤ B) ∧ (ok n = true → val n ≤ B) := by
      constructor
      · exact fun h => ⟨fun t ht => h t (by omega), h n (by omega)⟩
      · rintro ⟨h1, h2⟩ t ht
        by_cases e : t = n
        · subst e; exact h2
        · exact h1 t (by omega)
    rw [key]
    by_cases h : ok n = true
    · rw [if_pos h]
      constructor
      · intro hm
        have := ih.1 (by omega)
        exact ⟨this.1, this.2, fun _ => by omega⟩
      · rintro ⟨h1, h2, h3⟩
        have := ih.2 ⟨h1, h2⟩
        have := h3 h
        omega
    · rw [if_neg h, ih]
      exact ⟨fun ⟨h1, h2⟩ => ⟨h1, h2, fun h' => (h h').elim⟩, fun ⟨h1, h2, _⟩ => ⟨h1, h2⟩⟩

theorem le_mor {ok : Nat → Bool} {val : Nat → Int} {n : Nat} {B : Int} : B ≤ morTo false ok val n ↔ B ≤ 2147483648 ∧ ∀ t, t < n → ok t = true → B ≤ val t := by
  induction n with
  | zero =>
    simp only [morTo]
    exact ⟨fun h => ⟨h, fun t ht => by omega⟩, fun h => h.1⟩
  | succ n ih =>
    have e0 : morTo false ok val (n + 1) = if ok n = true then min (morTo false ok val n) (val n) else morTo false ok val n := by simp [morTo]
    rw [e0]
    have key : (∀ t, t < n + 1 → ok t = true → B ≤ val t) ↔ (∀ t, t < n → ok t = true → B ≤ val t) ∧ (ok n = true → B ≤ val n) := by
      constructor
      · exact fun h => ⟨fun t ht => h t (by omega), h n (by omega)⟩
      · rintro ⟨h1, h2⟩ t ht
        by_cases e : t = n
        · subst e; exact h2
        · exact h1 t (by omega)
    rw [key]
    by_cases h : ok n = true
    · rw [if_pos h]
      constructor
      · intro hm
        have := ih.1 (by omega)
        exact ⟨this.1, this.2, fun _ => by omega⟩
      · rintro ⟨h1, h2, h3⟩
        have := ih.2 ⟨h1, h2⟩
        have := h3 h
        omega
    · rw [if_neg h, ih]
      exact ⟨fun ⟨h1, h2⟩ => ⟨h1, h2, fun h' => (h h').elim⟩, fun ⟨h1, h2, _⟩ => ⟨h1, h2⟩⟩

theorem mor_bd {mx : Bool} {ok : Nat → Bool} {val : Nat → Int} (h : ∀ t, -2147483648 ≤ val t ∧ val t ≤ 2147483648) (n : Nat) : -2147483648 ≤ morTo mx ok val n ∧ morTo mx ok val n ≤ 2147483648 := by
  induction n with
  | zero => cases mx <;> simp [morTo]
  | succ n ih =>
    have := h n
    simp only [morTo]
    split
    · split <;> omega
    · exact ih

theorem mor_congr {mx : Bool} {ok ok' : Nat → Bool} {val val' : Nat → Int} {n : Nat} (h : ∀ t, t < n → ok t = ok' t ∧ (ok t = true → val t = val' t)) : morTo mx ok val n = morTo mx ok' val' n := by
  induction n with
  | zero => rfl
  | succ n ih =>
    simp only [morTo]
    rw [ih fun t ht => h t (by omega)]
    obtain ⟨h1, h2⟩ := h n (by omega)
    by_cases e : ok n = true
    · rw [if_pos e, if_pos (show ok' n = true by rw [← h1]; exact e), h2 e]
    · rw [if_neg e, if_neg (show ¬ ok' n = true by rw [← h1]; exact e)]

end Go.Proofs.Ytbfigbpjoaccdaa
