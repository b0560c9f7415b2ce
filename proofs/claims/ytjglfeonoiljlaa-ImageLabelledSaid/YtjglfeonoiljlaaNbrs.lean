/- The four neighbours of a pixel, as the law package lists them: plain. -/
import Derived.Test.YtjglfeonoiljlaaNear
namespace Go.Proofs.Ytjglfeonoiljlaa
set_option linter.unusedVariables false
set_option linter.unusedSimpArgs false

def nbrL (pw ph i : Nat) : List Nat :=
  (if 0 < i % pw then [i - 1] else []) ++ (if i % pw + 1 < pw then [i + 1] else []) ++ (if pw ≤ i then [i - pw] else []) ++ (if i < pw * (ph - 1) then [i + pw] else [])

theorem mem_nbrL {pw ph i k : Nat} (hi : i < pw * ph) : k ∈ nbrL pw ph i ↔ (0 < i % pw ∧ k = i - 1) ∨ (i % pw + 1 < pw ∧ k = i + 1) ∨ (pw ≤ i ∧ k = i - pw) ∨ (i < pw * (ph - 1) ∧ k = i + pw) := by
  unfold nbrL
  simp only [List.mem_append]
  constructor
  · rintro (((h | h) | h) | h) <;> split at h <;> simp at h
    · exact .inl ⟨by assumption, h⟩
    · exact .inr (.inl ⟨by assumption, h⟩)
    · exact .inr (.inr (.inl ⟨by assumption, h⟩))
    · exact .inr (.inr (.inr ⟨by assumption, h⟩))
  · rintro (⟨h, rfl⟩ | ⟨h, rfl⟩ | ⟨h, rfl⟩ | ⟨h, rfl⟩)
    · exact .inl (.inl (.inl (by rw [if_pos h]; simp)))
    · exact .inl (.inl (.inr (by rw [if_pos h]; simp)))
    · exact .inl (.inr (by rw [if_pos h]; simp))
    · exact .inr (by rw [if_pos h]; simp)

theorem nbrL_near {pw ph i k : Nat} (hi : i < pw * ph) (h : k ∈ nbrL pw ph i) : k < pw * ph ∧ nearB pw false i k = true := by
  have hpw : 0 < pw := by
    cases pw with
    | zero => simp at hi
    | succ k => omega
  have hph : 0 < ph := by
    cases ph with
    | zero => simp at hi
    | succ k => omega
  rw [nearB_four]
  have hsp := idx_split pw i
  have hx := Nat.mod_lt i hpw
  have hy : i / pw < ph := Nat.div_lt_of_lt_mul hi
  rw [mem_nbrL hi] at h
  obtain ⟨x, hxe⟩ : ∃ x, i % pw = x := ⟨_, rfl⟩
  obtain ⟨y, hye⟩ : ∃ y, i / pw = y := ⟨_, rfl⟩
  rw [hxe] at hsp hx h
  rw [hye] at hsp hy
  subst hsp
  have key : ∀ u v : Nat, u < pw → v < ph → ((u : Int) - x).natAbs + ((v : Int) - y).natAbs = 1 → v * pw + u < pw * ph ∧ l1 pw (y * pw + x) (v * pw + u) = 1 := fun u v hu hv hd => by
    refine ⟨idx_bound hu hv, ?_⟩
    unfold l1 dX dY
    rw [idx_mod y hx, idx_mod v hu, idx_div y hx, idx_div v hu]
    omega
  rcases h with ⟨h, rfl⟩ | ⟨h, rfl⟩ | ⟨h, rfl⟩ | ⟨h, rfl⟩
  · have := key (x - 1) y (by omega) hy (by omega)
    rw [show y * pw + x - 1 = y * pw + (x - 1) by omega]; exact this
  · have := key (x + 1) y (by omega) hy (by omega)
    rw [show y * pw + x + 1 = y * pw + (x + 1) by omega]; exact this
  · have hy0 : 0 < y := by
      cases y with
      | zero => omega
      | succ k => omega
    have e : y * pw = (y - 1) * pw + pw := by rw [← Nat.succ_mul]; congr 1; omega
    have := key x (y - 1) hx (by omega) (by omega)
    rw [show y * pw + x - pw = (y - 1) * pw + x by omega]; exact this
  · have hyh : y + 1 < ph := by
      refine Nat.lt_of_not_le fun hc => ?_
      have h1 : (ph - 1) * pw ≤ y * pw := Nat.mul_le_mul_right pw (by omega)
      rw [Nat.mul_comm pw (ph - 1)] at h
      omega
    have := key x (y + 1) hx hyh (by omega)
    rw [show y * pw + x + pw = (y + 1) * pw + x by rw [Nat.add_mul]; omega]; exact this

theorem near_nbrL {pw ph i k : Nat} (hi : i < pw * ph) (hk : k < pw * ph) (h : nearB pw false i k = true) : k ∈ nbrL pw ph i := by
  have hpw : 0 < pw := by
    cases pw with
    | zero => simp at hi
    | succ k => omega
  rw [nearB_four] at h
  rw [mem_nbrL hi]
  have hsp := idx_split pw i
  have hsk := idx_split pw k
  have hx := Nat.mod_lt i hpw
  have hu := Nat.mod_lt k hpw
  have hy : i / pw < ph := Nat.div_lt_of_lt_mul hi
  have hv : k / pw < ph := Nat.div_lt_of_lt_mul hk
  unfold l1 dX dY at h
  obtain ⟨x, hxe⟩ : ∃ x, i % pw = x := ⟨_, rfl⟩
  obtain ⟨y, hye⟩ : ∃ y, i / pw = y := ⟨_, rfl⟩
  obtain ⟨u, hue⟩ : ∃ x, k % pw = x := ⟨_, rfl⟩
  obtain ⟨v, hve⟩ : ∃ y, k / pw = y := ⟨_, rfl⟩
  rw [hxe] at hsp hx h ⊢
  rw [hye] at hsp hy h
  rw [hue] at hsk hu h
  rw [hve] at hsk hv h
  have hc : (v = y ∧ (u + 1 = x ∨ u = x + 1)) ∨ (u = x ∧ (v + 1 = y ∨ v = y + 1)) := by omega
  rcases hc with ⟨rfl, h1 | h1⟩ | ⟨rfl, h1 | h1⟩
  · exact .inl ⟨by omega, by omega⟩
  · exact .inr (.inl ⟨by omega, by omega⟩)
  · have e : y * pw = v * pw + pw := by rw [← h1, Nat.add_mul]; omega
    exact .inr (.inr (.inl ⟨by omega, by omega⟩))
  · have e : v * pw = y * pw + pw := by rw [h1, Nat.add_mul]; omega
    have e2 : (y + 1) * pw ≤ (ph - 1) * pw := Nat.mul_le_mul_right pw (by omega)
    rw [Nat.add_mul, Nat.mul_comm (ph - 1) pw] at e2
    exact .inr (.inr (.inr ⟨by omega, by omega⟩))

end Go.Proofs.Ytjglfeonoiljlaa
