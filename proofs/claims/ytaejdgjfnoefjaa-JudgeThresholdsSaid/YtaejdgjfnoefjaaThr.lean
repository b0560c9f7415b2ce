/- Costs of thresholds, and the threshold with the least one. Plain: no program in sight. -/
import Derived.Lib.Hide
namespace Go.Proofs.Ytaejdgjfnoefjaa
set_option linter.unusedVariables false
set_option linter.unusedSimpArgs false

def costL (f : Int → Int) : List Int → Int
  | [] => 0
  | x :: r => costL f r + f x
theorem costL_congr {f g : Int → Int} : ∀ {l : List Int}, (∀ x ∈ l, f x = g x) → costL f l = costL g l
  | [], _ => rfl
  | x :: r, h => by simp only [costL]; rw [costL_congr fun y hy => h y (List.mem_cons_of_mem _ hy), h x List.mem_cons_self]
theorem costL_append (f : Int → Int) : ∀ (l r : List Int), costL f (l ++ r) = costL f l + costL f r
  | [], r => by simp [costL]
  | x :: l, r => by simp only [List.cons_append, costL]; rw [costL_append f l r]; omega
theorem costL_snoc (f : Int → Int) (l : List Int) (x : Int) : costL f (l ++ [x]) = costL f l + f x := by rw [costL_append]; simp [costL]
theorem costL_bd {f : Int → Int} {B : Int} : ∀ {l : List Int}, (∀ x ∈ l, 0 ≤ f x ∧ f x ≤ B) → 0 ≤ costL f l ∧ costL f l ≤ B * l.length
  | [], _ => by simp [costL]
  | x :: r, h => by
    have ih := costL_bd (l := r) fun y hy => h y (List.mem_cons_of_mem _ hy)
    have hx := h x List.mem_cons_self
    simp only [costL, List.length_cons]
    rw [Int.natCast_succ, Int.mul_add, Int.mul_one]
    omega
/-- What good scores below a threshold cost, and bad ones not below. -/
def goodC (alarm t : Int) (s : Int) : Int := if s < t then alarm else 0
def badC (miss t : Int) (s : Int) : Int := if t ≤ s then miss else 0
def costT (good bad : List Int) (miss alarm t : Int) : Int := costL (goodC alarm t) good + costL (badC miss t) bad
theorem costT_congr {good bad : List Int} {miss alarm t u : Int} (h : ∀ s, s ∈ good ∨ s ∈ bad → (s < t ↔ s < u)) : costT good bad miss alarm t = costT good bad miss alarm u := by
  unfold costT
  rw [costL_congr (f := goodC alarm t) (g := goodC alarm u) fun s hs => ?_, costL_congr (f := badC miss t) (g := badC miss u) fun s hs => ?_]
  · have h1 := h s (.inr hs)
    unfold badC
    by_cases c : s < t
    · rw [if_neg (by omega), if_neg (by have := h1.1 c; omega)]
    · rw [if_pos (by omega), if_pos (by have : ¬ s < u := fun e => c (h1.2 e); omega)]
  · have h1 := h s (.inl hs)
    unfold goodC
    by_cases c : s < t
    · rw [if_pos c, if_pos (h1.1 c)]
    · rw [if_neg c, if_neg (fun e => c (h1.2 e))]
theorem costT_bd {good bad : List Int} {miss alarm t : Int} (hm : 0 ≤ miss) (hm2 : miss ≤ 10000) (ha : 0 ≤ alarm) (ha2 : alarm ≤ 10000) (hg : good.length ≤ 100) (hb : bad.length ≤ 100) : 0 ≤ costT good bad miss alarm t ∧ costT good bad miss alarm t ≤ 2000000 := by
  have h1 := costL_bd (f := goodC alarm t) (B := 10000) (l := good) fun s _ => by unfold goodC; split <;> omega
  have h2 := costL_bd (f := badC miss t) (B := 10000) (l := bad) fun s _ => by unfold badC; split <;> omega
  unfold costT
  omega

/-- A number of a list with the least cost, the least one of these. -/
structure IsBest (c : Int → Int) (l : List Int) (t : Int) : Prop where
  mem : t ∈ l
  best : ∀ s ∈ l, c t < c s ∨ (c t = c s ∧ t ≤ s)
theorem IsBest.unique {c : Int → Int} {l m : List Int} {t u : Int} (h : IsBest c l t) (h2 : IsBest c m u) (hlm : ∀ x, x ∈ l ↔ x ∈ m) : t = u := by
  have h3 := h.best u ((hlm u).2 h2.mem)
  have h4 := h2.best t ((hlm t).1 h.mem)
  omega
theorem IsBest.one (c : Int → Int) (t : Int) : IsBest c [t] t := ⟨by simp, fun s hs => by simp at hs; subst hs; exact .inr ⟨rfl, Int.le_refl _⟩⟩
/-- One number more. -/
theorem IsBest.snoc {c : Int → Int} {l : List Int} {t u : Int} (h : IsBest c l t) : IsBest c (l ++ [u]) (if c u < c t ∨ (c u = c t ∧ u < t) then u else t) := by
  by_cases hc : c u < c t ∨ (c u = c t ∧ u < t)
  · rw [if_pos hc]
    refine ⟨by simp, fun s hs => ?_⟩
    rcases List.mem_append.1 hs with h1 | h1
    · have := h.best s h1; omega
    · simp at h1; subst h1; exact .inr ⟨rfl, Int.le_refl _⟩
  · rw [if_neg hc]
    refine ⟨List.mem_append_left _ h.mem, fun s hs => ?_⟩
    rcases List.mem_append.1 hs with h1 | h1
    · exact h.best s h1
    · simp at h1; subst h1; omega
/-- One number more that is not below the others: only its cost counts. -/
theorem IsBest.next {c : Int → Int} {l : List Int} {t u : Int} (h : IsBest c l t) (hu : ∀ s ∈ l, s ≤ u) : IsBest c (l ++ [u]) (if c u < c t then u else t) := by
  have h1 := h.snoc (u := u)
  have h2 := hu t h.mem
  by_cases hc : c u < c t
  · rw [if_pos (.inl hc)] at h1; rw [if_pos hc]; exact h1
  · rw [if_neg (by omega)] at h1; rw [if_neg hc]; exact h1

/-- The least number of a list that is not below another one. -/
theorem least_above : ∀ (l : List Int) (o : Int), (∃ x ∈ l, o ≤ x) → ∃ x ∈ l, o ≤ x ∧ ∀ y ∈ l, o ≤ y → x ≤ y
  | [], o, h => by obtain ⟨x, hx, _⟩ := h; simp at hx
  | a :: l, o, h => by
    by_cases hl : ∃ x ∈ l, o ≤ x
    · obtain ⟨x, hx, h1, h2⟩ := least_above l o hl
      by_cases ha : o ≤ a ∧ a < x
      · refine ⟨a, List.mem_cons_self, ha.1, fun y hy hoy => ?_⟩
        rcases List.mem_cons.1 hy with rfl | hy
        · exact Int.le_refl _
        · have := h2 y hy hoy; omega
      · refine ⟨x, List.mem_cons_of_mem _ hx, h1, fun y hy hoy => ?_⟩
        rcases List.mem_cons.1 hy with rfl | hy
        · omega
        · exact h2 y hy hoy
    · obtain ⟨x, hx, hox⟩ := h
      rcases List.mem_cons.1 hx with rfl | hx
      · refine ⟨x, List.mem_cons_self, hox, fun y hy hoy => ?_⟩
        rcases List.mem_cons.1 hy with rfl | hy
        · exact Int.le_refl _
        · exact (hl ⟨y, hy, hoy⟩).elim
      · exact (hl ⟨x, hx, hox⟩).elim
/-- No threshold whatever is cheaper than the best of the scores and of one more than the greatest. -/
theorem best_cheapest {good bad all : List Int} {miss alarm t top : Int} (hb : IsBest (costT good bad miss alarm) all t) (hall : ∀ s, s ∈ good ∨ s ∈ bad → s ∈ all ∧ s < top) (htop : top ∈ all) (o : Int) : costT good bad miss alarm t ≤ costT good bad miss alarm o := by
  by_cases h : ∃ x ∈ all, o ≤ x
  · obtain ⟨x, hx, h1, h2⟩ := least_above all o h
    have e : costT good bad miss alarm o = costT good bad miss alarm x := costT_congr fun s hs => by
      constructor
      · intro hlt; omega
      · intro hlt
        exact Classical.byContradiction fun hc => by have := h2 s (hall s hs).1 (by omega); omega
    rw [e]
    have := hb.best x hx
    omega
  · have e : costT good bad miss alarm o = costT good bad miss alarm top := costT_congr fun s hs => by
      have h1 := (hall s hs).2
      have h2 : top < o := by
        have : ¬ o ≤ top := fun hc => h ⟨top, htop, hc⟩
        omega
      exact ⟨fun _ => h1, fun _ => by omega⟩
    rw [e]
    have := hb.best top htop
    omega

end Go.Proofs.Ytaejdgjfnoefjaa
