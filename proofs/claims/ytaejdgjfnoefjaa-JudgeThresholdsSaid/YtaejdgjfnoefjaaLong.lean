/- Numbers by their words, the lowest first: products, sums, comparisons. Plain: no program in sight. -/
import Derived.Lib.Hide
namespace Go.Proofs.Ytaejdgjfnoefjaa
set_option linter.unusedVariables false
set_option linter.unusedSimpArgs false

/-- The number of some words to a base. -/
def valB (B : Nat) : List Nat → Nat
  | [] => 0
  | x :: r => x + B * valB B r
/-- All words are below the base. -/
def wordsB (B : Nat) (l : List Nat) : Prop := ∀ x ∈ l, x < B

theorem valB_nil (B : Nat) : valB B [] = 0 := rfl
theorem valB_append (B : Nat) : ∀ (l r : List Nat), valB B (l ++ r) = valB B l + B ^ l.length * valB B r
  | [], r => by simp [valB]
  | x :: l, r => by
    simp only [List.cons_append, valB, List.length_cons]
    rw [valB_append B l r, Nat.mul_add, Nat.pow_succ, ← Nat.mul_assoc, Nat.mul_comm B (B ^ l.length), Nat.add_assoc]
theorem valB_snoc (B : Nat) (l : List Nat) (x : Nat) : valB B (l ++ [x]) = valB B l + B ^ l.length * x := by
  rw [valB_append]; simp [valB]
theorem valB_zeros (B : Nat) : ∀ n, valB B (List.replicate n 0) = 0
  | 0 => rfl
  | n + 1 => by simp [List.replicate_succ, valB, valB_zeros B n]
theorem valB_set (B : Nat) : ∀ (l : List Nat) (i v : Nat), i < l.length → valB B (l.set i v) + B ^ i * l[i]?.getD 0 = valB B l + B ^ i * v
  | [], i, v, h => by simp at h
  | x :: l, 0, v, h => by simp [valB]; omega
  | x :: l, i + 1, v, h => by
    have ih := valB_set B l i v (by simpa using h)
    simp only [List.set_cons_succ, valB, List.getElem?_cons_succ]
    have h2 := congrArg (B * ·) ih
    simp only [Nat.mul_add, ← Nat.mul_assoc] at h2
    rw [Nat.pow_succ, Nat.mul_comm (B ^ i) B]
    omega
theorem valB_lt {B : Nat} (hB : 0 < B) : ∀ {l : List Nat}, wordsB B l → valB B l < B ^ l.length
  | [], _ => by simp [valB]
  | x :: l, h => by
    have ih := valB_lt hB (l := l) fun y hy => h y (List.mem_cons_of_mem _ hy)
    have hx := h x List.mem_cons_self
    have h2 : B * (valB B l + 1) ≤ B * B ^ l.length := Nat.mul_le_mul_left B ih
    simp only [valB, List.length_cons, Nat.pow_succ]
    rw [Nat.mul_comm (B ^ l.length) B]
    rw [Nat.mul_add] at h2
    omega
theorem valB_take_succ (B : Nat) (l : List Nat) {i : Nat} (h : i < l.length) : valB B (l.take (i + 1)) = valB B (l.take i) + B ^ i * l[i]?.getD 0 := by
  rw [List.take_add_one, List.getElem?_eq_getElem h]
  show valB B (l.take i ++ [l[i]]) = _
  rw [valB_snoc, List.length_take, Nat.min_eq_left (by omega)]
  rfl
theorem wordsB_set {B : Nat} {l : List Nat} (h : wordsB B l) {i v : Nat} (hv : v < B) : wordsB B (l.set i v) := fun x hx => by
  rcases List.mem_or_eq_of_mem_set hx with h1 | h1
  · exact h x h1
  · rw [h1]; exact hv
theorem wordsB_zeros {B : Nat} (hB : 0 < B) (n : Nat) : wordsB B (List.replicate n 0) := fun x hx => by rw [List.eq_of_mem_replicate hx]; exact hB
theorem wordsB_take {B : Nat} {l : List Nat} (h : wordsB B l) (k : Nat) : wordsB B (l.take k) := fun x hx => h x (List.mem_of_mem_take hx)
theorem wordsB_get {B : Nat} (hB : 0 < B) {l : List Nat} (h : wordsB B l) (i : Nat) : l[i]?.getD 0 < B := by
  by_cases hi : i < l.length
  · rw [List.getElem?_eq_getElem hi]; exact h _ (List.getElem_mem hi)
  · rw [List.getElem?_eq_none (by omega)]; exact hB

/-! ### Products with a word: the state after the first i words -/

/-- What has been laid down: the words so far, the rest zeros; the number is that of the first i words times n. -/
structure TimesB (B n : Nat) (a : List Nat) (i : Nat) (o : List Nat) : Prop where
  len : o.length = a.length + 1
  words : wordsB B o
  val : valB B o = valB B (a.take i) * n
  rest : ∀ j, i < j → o[j]?.getD 0 = 0

theorem TimesB.start {B : Nat} (hB : 0 < B) (n : Nat) (a : List Nat) : TimesB B n a 0 (List.replicate (a.length + 1) 0) where
  len := by simp
  words := wordsB_zeros hB _
  val := by rw [valB_zeros]; simp [valB]
  rest j _ := by rw [List.getElem?_replicate]; split <;> rfl
/-- One more word: x * n in two halves, the lower one added to what stands there. -/
theorem TimesB.step {B n : Nat} {a : List Nat} {i : Nat} {o : List Nat} (h : TimesB B n a i o) (hB : 0 < B) (hi : i < a.length) {x hi' lo s c : Nat} (hx : a[i]?.getD 0 = x) (hmul : x * n = hi' * B + lo) (hsum : o[i]?.getD 0 + lo = c * B + s) (hs : s < B) (hc : hi' + c < B) :
    TimesB B n a (i + 1) ((o.set i s).set (i + 1) (hi' + c)) := by
  have hl := h.len
  have h1 := valB_set B o i s (by omega)
  have h2 := valB_set B (o.set i s) (i + 1) (hi' + c) (by rw [List.length_set]; omega)
  have h3 : (o.set i s)[i + 1]?.getD 0 = 0 := by
    rw [List.getElem?_set_ne (by omega)]; exact h.rest _ (by omega)
  rw [h3, Nat.mul_zero, Nat.add_zero] at h2
  refine ⟨by simp [hl], wordsB_set (wordsB_set h.words hs) hc, ?_, fun j hj => ?_⟩
  · rw [h2, valB_take_succ B a hi, hx, Nat.add_mul, ← h.val, Nat.mul_assoc, hmul]
    have e1 := congrArg (B ^ i * ·) hsum
    simp only [Nat.mul_add] at e1 ⊢
    rw [Nat.pow_succ]
    have e2 : B ^ i * (c * B) = B ^ i * B * c := by rw [Nat.mul_comm c B, Nat.mul_assoc]
    have e3 : B ^ i * (hi' * B) = B ^ i * B * hi' := by rw [Nat.mul_comm hi' B, Nat.mul_assoc]
    omega
  · rw [List.getElem?_set_ne (by omega), List.getElem?_set_ne (by omega)]
    exact h.rest j (by omega)
theorem TimesB.done {B n : Nat} {a : List Nat} {o : List Nat} (h : TimesB B n a a.length o) : valB B o = valB B a * n := by rw [h.val, List.take_length]
/-- The higher half and the carry fit into a word. -/
theorem half_fits {B x n w hi' lo s c : Nat} (hx : x < B) (hn : n < B) (hw : w < B) (hmul : x * n = hi' * B + lo) (hsum : w + lo = c * B + s) : hi' + c < B := by
  refine Nat.lt_of_not_le fun h => ?_
  have h1 : B * B ≤ (hi' + c) * B := Nat.mul_le_mul_right B h
  have h2 : x * n ≤ (B - 1) * (B - 1) := Nat.mul_le_mul (by omega) (by omega)
  have h3 : (B - 1) * (B - 1) + (B - 1) + (B - 1) + 1 = B * B := by
    obtain ⟨k, rfl⟩ : ∃ k, B = k + 1 := ⟨B - 1, by omega⟩
    simp only [Nat.add_sub_cancel, Nat.add_mul, Nat.mul_add]
    omega
  rw [Nat.add_mul] at h1
  omega

/-! ### Sums -/

/-- The state of a sum after the first i words: the number of the words laid down, and the carry. -/
structure PlusB (B : Nat) (a b : List Nat) (i : Nat) (o : List Nat) (c : Nat) : Prop where
  words : wordsB B o
  carry : c ≤ 1
  val : valB B o + B ^ i * c = valB B (a.take i) + valB B (b.take i)
theorem valB_take_more {B : Nat} {l : List Nat} {i : Nat} : valB B (l.take (i + 1)) = valB B (l.take i) + B ^ i * l[i]?.getD 0 := by
  by_cases h : i < l.length
  · exact valB_take_succ B l h
  · rw [List.take_of_length_le (by omega), List.take_of_length_le (by omega), List.getElem?_eq_none (by omega)]; simp

/-! ### Comparisons -/

/-- No zeros at the end. -/
def trimmed (l : List Nat) : Prop := ∀ i, i + 1 = l.length → l[i]?.getD 0 ≠ 0
theorem valB_ge {B : Nat} {l : List Nat} {i : Nat} (h : i < l.length) (hne : l[i]?.getD 0 ≠ 0) : B ^ i ≤ valB B l := by
  have h1 : l.take (i + 1) ++ l.drop (i + 1) = l := List.take_append_drop _ _
  rw [← h1, valB_append, valB_take_succ B l h]
  have : B ^ i * 1 ≤ B ^ i * l[i]?.getD 0 := Nat.mul_le_mul_left _ (by omega)
  omega
theorem val_short {B : Nat} (hB : 0 < B) {a b : List Nat} (ha : wordsB B a) (hb : trimmed b) (h : a.length < b.length) : valB B a < valB B b := by
  have h1 := valB_lt hB ha
  have h2 := valB_ge (B := B) (l := b) (i := b.length - 1) (by omega) (hb _ (by omega))
  have h3 : B ^ a.length ≤ B ^ (b.length - 1) := Nat.pow_le_pow_right hB (by omega)
  omega
theorem val_same {B : Nat} : ∀ (l r : List Nat), (∀ j : Nat, l[j]?.getD 0 = r[j]?.getD 0) → valB B l = valB B r
  | [], r, hr => by
    have : r = List.replicate r.length 0 := List.ext_getElem (by simp) fun j h1 h2 => by
      have := hr j
      rw [List.getElem?_eq_getElem h1] at this
      simpa using this.symm
    rw [this, valB_zeros]; rfl
  | x :: l, [], hr => by
    have h0 := hr 0
    have hz := val_same (B := B) l [] fun j => by have := hr (j + 1); simpa using this
    simp at h0
    simp [valB, h0, hz]
  | x :: l, y :: r, hr => by
    have h0 := hr 0
    simp at h0
    simp only [valB, h0]
    rw [val_same (B := B) l r fun j => by have := hr (j + 1); simpa using this]
/-- Lists that agree from i + 1 on are in the order of their entries i. -/
theorem val_order {B : Nat} (hB : 0 < B) {a b : List Nat} (ha : wordsB B a) (hb : wordsB B b) {i : Nat} (h : ∀ j : Nat, i < j → a[j]?.getD 0 = b[j]?.getD 0) (hlt : a[i]?.getD 0 < b[i]?.getD 0) : valB B a < valB B b := by
  have hd : ∀ l : List Nat, valB B l = valB B (l.take (i + 1)) + B ^ (i + 1) * valB B (l.drop (i + 1)) := fun l => by
    by_cases hl : i + 1 ≤ l.length
    · conv => lhs; rw [← List.take_append_drop (i + 1) l]
      rw [valB_append, List.length_take, Nat.min_eq_left hl]
    · rw [List.take_of_length_le (by omega), List.drop_of_length_le (by omega)]; simp [valB]
  have e := val_same (B := B) (a.drop (i + 1)) (b.drop (i + 1)) fun j => by
    rw [List.getElem?_drop, List.getElem?_drop]; exact h _ (by omega)
  rw [hd a, hd b, e]
  refine Nat.add_lt_add_right ?_ _
  rw [valB_take_more, valB_take_more]
  have h1 : valB B (a.take i) < B ^ i := by
    have h2 := valB_lt hB (wordsB_take ha i)
    have h3 : B ^ (a.take i).length ≤ B ^ i := Nat.pow_le_pow_right hB (by rw [List.length_take]; omega)
    omega
  have h2 : B ^ i * (a[i]?.getD 0 + 1) ≤ B ^ i * b[i]?.getD 0 := Nat.mul_le_mul_left _ hlt
  rw [Nat.mul_add] at h2
  omega

end Go.Proofs.Ytaejdgjfnoefjaa
