/- The beginnings of a pipe. Plain laws. -/
import Derived.Test.YtekiemlniegddaaGreatQH19
namespace Go.Proofs.YtekiemlniegddaaGreat
open Go Go.RowKit Go.Shelf
set_option linter.unusedVariables false
set_option linter.unusedSimpArgs false

theorem stAt_take (ss : List StepN) {i k : Nat} (h : k < i) : stAt (ss.take i) k = stAt ss k := by
 unfold stAt
 rw [List.getElem?_take, if_pos h]
theorem stepsB_take (I : Int) (ss : List StepN) {i : Nat} : ∀ {k : Nat}, k ≤ i → stepsB I (ss.take i) k = stepsB I ss k
 | 0, _ => rfl
 | k + 1, h => by rw [stepsB, stepsB, stepsB_take I ss (show k ≤ i by omega), stAt_take ss (show k < i by omega)]
theorem stepsB_down {I : Int} {ss : List StepN} : ∀ {n k : Nat}, k ≤ n → stepsB I ss n = true → stepsB I ss k = true
  | 0, k, h, hs => by obtain rfl : k = 0 := by omega
                      exact hs
  | n + 1, k, h, hs => by
    by_cases e : k = n + 1
    · subst e; exact hs
    · rw [stepsB, Bool.and_eq_true] at hs
      exact stepsB_down (by omega) hs.1
theorem afterN_take (ss : List StepN) (ms : List PicN) {i : Nat} : ∀ {k : Nat}, k ≤ i → afterN (ss.take i) ms k = afterN ss ms k
 | 0, _ => rfl
 | k + 1, h => by rw [afterN, afterN, afterN_take ss ms (show k ≤ i by omega), stAt_take ss (show k < i by omega)]
/-- The pipe of the first steps. -/
def begP (P : PipeN) (i : Nat) : PipeN := { P with ss := P.ss.take i }
section
variable {P : PipeN} {ms : List PicN} {i : Nat}
theorem cut_ok (hP : pipeB P = true) (hi : i < P.ss.length) : pipeB (begP P (i + 1)) = true := by
 obtain ⟨hw, hh, h3, h4, hall⟩ := pipeB_true hP
 have hl : (P.ss.take (i + 1)).length = i + 1 := by rw [List.length_take]; omega
 have hs : stepsB P.inp (P.ss.take (i + 1)) (i + 1) = true := by rw [stepsB_take _ _ (Nat.le_refl _)]; exact stepsB_down (by omega) hall
 unfold pipeB sizeB begP
 simp only [Bool.and_eq_true, inR_true, decide_eq_true_eq]
 rw [hl]
 exact ⟨⟨⟨hw, hh⟩, h3, by omega, by omega⟩, hs⟩
/-- The meaning of the first steps is what the last of them makes. -/
theorem cut_mean (hi : i < P.ss.length) (hm : 0 < ms.length) : meanN (begP P (i + 1)) ms = resN (appS (stAt P.ss i) (afterN P.ss ms i)) := by
 have hl : (P.ss.take (i + 1)).length = i + 1 := by rw [List.length_take]; omega
 unfold meanN begP
 simp only
 rw [hl, afterN_take _ _ (Nat.le_refl _), afterN, picAt_snoc, afterN_length, if_neg (by omega), if_pos (by omega)]
theorem step_form (hP : pipeB P = true) (hg : givenB ms P.inp P.w P.h = true) {k : Nat} (hk : k < P.ss.length) :
  ∃ X, appS (stAt P.ss k) (afterN P.ss ms k) = { w := P.w, h := P.h, px := X, err := 0 } ∧ meanS (begP P (k + 1)) ms = { w := P.w, h := P.h, px := X, err := 0 } ∧ afterN P.ss ms (k + 1) = afterN P.ss ms k ++ [⟨P.w, P.h, X⟩] ∧
   (0 ≤ (stAt P.ss k).a ∧ (stAt P.ss k).a < ((ms.length + k : Nat) : Int)) ∧ ((stAt P.ss k).op = 2 → 0 ≤ (stAt P.ss k).b ∧ (stAt P.ss k).b < ((ms.length + k : Nat) : Int)) := by
 obtain ⟨_, _, h3, h4, hall⟩ := pipeB_true hP
 have lk := givenB_len hg
 obtain ⟨n1, n2⟩ := stepsB_all hall hk
 obtain ⟨r1, r2⟩ := refB_true n2
 have ok : ∀ x : Int, 0 ≤ x → x < P.inp + k → PicOk P.w P.h (picAt (afterN P.ss ms k) x.toNat) := fun x x0 x1 => by
  rw [imN_op hP (by omega) (by omega) x0 x1]; exact imN_all hP hg k (by omega) x x0 x1
 have h := appS_ok n1 (ok _ r1.1 (by omega)) (fun h => by have := r2 h; exact ok _ this.1 (by omega))
 have hm := mean_val (cut_ok hP hk) hg
 have hc := cut_mean (P := P) (ms := ms) hk (by omega)
 rw [hc, h] at hm
 exact ⟨_, h, hm, by rw [afterN, h]; rfl, ⟨r1.1, by omega⟩, fun h => by have := r2 h; exact ⟨this.1, by omega⟩⟩
end
end Go.Proofs.YtekiemlniegddaaGreat
