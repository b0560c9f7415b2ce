/- Pixels that are neighbours, by their indexes, and distances along pixels, in plain numbers. No program in sight. -/
import Derived.Test.YtbfigbpjoaccdaaSums
namespace Go.Proofs.Ytbfigbpjoaccdaa
set_option linter.unusedVariables false
set_option linter.unusedSimpArgs false

/-- The columns', the rows' difference of two indexes. -/
def dX (pw i k : Nat) : Nat := (((i % pw : Nat) : Int) - ((k % pw : Nat) : Int)).natAbs
def dY (pw i k : Nat) : Nat := (((i / pw : Nat) : Int) - ((k / pw : Nat) : Int)).natAbs
def l1 (pw i k : Nat) : Nat := dX pw i k + dY pw i k
/-- Two pixels are neighbours, in the sense of four or of eight. -/
def nearB (pw : Nat) (eight : Bool) (i k : Nat) : Bool := decide (l1 pw i k = 1) || (eight && (decide (dX pw i k = 1) && decide (dY pw i k = 1)))

theorem dX_comm (pw i k : Nat) : dX pw i k = dX pw k i := by unfold dX; omega
theorem dY_comm (pw i k : Nat) : dY pw i k = dY pw k i := by unfold dY; omega
theorem l1_comm (pw i k : Nat) : l1 pw i k = l1 pw k i := by unfold l1; rw [dX_comm, dY_comm]
theorem nearB_comm (pw : Nat) (e : Bool) (i k : Nat) : nearB pw e i k = nearB pw e k i := by unfold nearB; rw [l1_comm, dX_comm, dY_comm]
theorem l1_self (pw i : Nat) : l1 pw i i = 0 := by simp [l1, dX, dY]
theorem l1_tri (pw i j k : Nat) : l1 pw i k ≤ l1 pw i j + l1 pw j k := by unfold l1 dX dY; omega
theorem dX_same (pw : Nat) {i k : Nat} (h : dX pw i k = 0) : i % pw = k % pw := by unfold dX at h; omega
theorem dY_same (pw : Nat) {i k : Nat} (h : dY pw i k = 0) : i / pw = k / pw := by unfold dY at h; omega
theorem l1_zero (pw : Nat) {i k : Nat} (h : l1 pw i k = 0) : i = k := by
  have h1 : i % pw = k % pw := dX_same pw (by unfold l1 at h; omega)
  have h2 : i / pw = k / pw := dY_same pw (by unfold l1 at h; omega)
  rw [← Nat.div_add_mod i pw, ← Nat.div_add_mod k pw, h1, h2]
theorem nearB_four {pw i k : Nat} : nearB pw false i k = true ↔ l1 pw i k = 1 := by simp [nearB]

theorem idx_split (pw i : Nat) : i / pw * pw + i % pw = i := by rw [Nat.mul_comm]; exact Nat.div_add_mod i pw

theorem dX_at {pw x : Nat} (y : Nat) (hx : x < pw) (k : Nat) : dX pw (y * pw + x) k = ((x : Int) - ((k % pw : Nat) : Int)).natAbs := by unfold dX; rw [idx_mod y hx]
theorem dY_at {pw x : Nat} (y : Nat) (hx : x < pw) (k : Nat) : dY pw (y * pw + x) k = ((y : Int) - ((k / pw : Nat) : Int)).natAbs := by unfold dY; rw [idx_div y hx]

/-- A pixel that is not k itself has a neighbour that is nearer to k by 1. -/
theorem step_toward {pw ph i k : Nat} (hi : i < pw * ph) (hk : k < pw * ph) {d : Nat} (h : l1 pw i k = d + 1) : ∃ j, j < pw * ph ∧ l1 pw i j = 1 ∧ l1 pw j k = d := by
  have hp0 : 0 < pw := Nat.pos_of_ne_zero (by rintro rfl; simp at hi)
  have hx : i % pw < pw := Nat.mod_lt _ hp0
  have hy : i / pw < ph := Nat.div_lt_of_lt_mul hi
  have kx : k % pw < pw := Nat.mod_lt _ hp0
  have ky : k / pw < ph := Nat.div_lt_of_lt_mul hk
  have key : ∀ x y : Nat, x < pw → y < ph → ((x : Int) - ((i % pw : Nat) : Int)).natAbs + ((y : Int) - ((i / pw : Nat) : Int)).natAbs = 1 → ((x : Int) - ((k % pw : Nat) : Int)).natAbs + ((y : Int) - ((k / pw : Nat) : Int)).natAbs = d → ∃ j, j < pw * ph ∧ l1 pw i j = 1 ∧ l1 pw j k = d := by
    intro x y h1 h2 h3 h4
    refine ⟨y * pw + x, idx_bound h1 h2, ?_, ?_⟩
    · rw [l1_comm]; unfold l1; rw [dX_at y h1, dY_at y h1]; exact h3
    · unfold l1; rw [dX_at y h1, dY_at y h1]; exact h4
  unfold l1 dX dY at h
  generalize i % pw = x at *
  generalize i / pw = y at *
  generalize k % pw = u at *
  generalize k / pw = v at *
  rcases Nat.lt_trichotomy x u with h1 | h1 | h1
  · exact key (x + 1) y (by omega) hy (by omega) (by omega)
  · rcases Nat.lt_trichotomy y v with h2 | h2 | h2
    · exact key x (y + 1) hx (by omega) (by omega) (by omega)
    · omega
    · exact key x (y - 1) hx (by omega) (by omega) (by omega)
  · exact key (x - 1) y (by omega) hy (by omega) (by omega)

/-- What does not rise by more than 1 between neighbours, and is not above 0 at k, is not above the distance from k. -/
theorem below_l1 {pw ph k : Nat} (hk : k < pw * ph) (f : Nat → Int) (h0 : f k ≤ 0) (hn : ∀ i, i < pw * ph → ∀ j, j < pw * ph → l1 pw i j = 1 → f j ≤ f i + 1) : ∀ (d i : Nat), i < pw * ph → l1 pw i k = d → f i ≤ d
  | 0, i, hi, h => by rw [l1_zero pw h]; exact h0
  | d + 1, i, hi, h => by
    obtain ⟨j, hj, h1, h2⟩ := step_toward hi hk h
    have := below_l1 hk f h0 hn d j hj h2
    have := hn j hj i hi (by rw [l1_comm]; exact h1)
    omega

/-! ### The least distance to a pixel with the value 0 -/

/-- The least distance to the first k pixels' zeros; the sides' sum if there are none. 'z' tells the zeros. -/
def nearTo (pw ph : Nat) (z : Nat → Bool) (i : Nat) : Nat → Int
  | 0 => (pw : Int) + ph
  | k + 1 => if z k = true then min (nearTo pw ph z i k) (l1 pw k i : Nat) else nearTo pw ph z i k

def nearest (pw ph : Nat) (z : Nat → Bool) (i : Nat) : Int := nearTo pw ph z i (pw * ph)

theorem nearTo_le {pw ph : Nat} {z : Nat → Bool} {i m k : Nat} (hk : k < m) (hz : z k = true) : nearTo pw ph z i m ≤ (l1 pw k i : Nat) := by
  induction m with
  | zero => omega
  | succ m ih =>
    unfold nearTo
    by_cases h : k = m
    · subst h; rw [if_pos hz]; omega
    · have := ih (by omega)
      split <;> omega
theorem nearTo_hi (pw ph : Nat) (z : Nat → Bool) (i m : Nat) : nearTo pw ph z i m ≤ (pw : Int) + ph := by
  induction m with
  | zero => exact Int.le_refl _
  | succ m ih => unfold nearTo; split <;> omega
theorem nearTo_cases (pw ph : Nat) (z : Nat → Bool) (i m : Nat) : nearTo pw ph z i m = (pw : Int) + ph ∨ ∃ k, k < m ∧ z k = true ∧ nearTo pw ph z i m = (l1 pw k i : Nat) := by
  induction m with
  | zero => exact .inl rfl
  | succ m ih =>
    unfold nearTo
    by_cases hz : z m = true
    · rw [if_pos hz]
      by_cases hle : nearTo pw ph z i m ≤ (l1 pw m i : Nat)
      · rw [show min (nearTo pw ph z i m) ((l1 pw m i : Nat) : Int) = nearTo pw ph z i m by omega]
        rcases ih with h | ⟨k, h1, h2, h3⟩
        · exact .inl h
        · exact .inr ⟨k, by omega, h2, h3⟩
      · rw [show min (nearTo pw ph z i m) ((l1 pw m i : Nat) : Int) = (l1 pw m i : Nat) by omega]
        exact .inr ⟨m, by omega, hz, rfl⟩
    · rw [if_neg hz]
      rcases ih with h | ⟨k, h1, h2, h3⟩
      · exact .inl h
      · exact .inr ⟨k, by omega, h2, h3⟩
theorem nearTo_pos (pw ph : Nat) (z : Nat → Bool) (i m : Nat) : 0 ≤ nearTo pw ph z i m := by
  rcases nearTo_cases pw ph z i m with h | ⟨k, _, _, h⟩ <;> omega

theorem nearest_step {pw ph : Nat} {z : Nat → Bool} {i j : Nat} (h : l1 pw i j = 1) : nearest pw ph z j ≤ nearest pw ph z i + 1 := by
  unfold nearest
  rcases nearTo_cases pw ph z i (pw * ph) with hc | ⟨k, h1, h2, h3⟩
  · have := nearTo_hi pw ph z j (pw * ph); omega
  · have h4 := nearTo_le (pw := pw) (ph := ph) (i := j) h1 h2
    have h5 := l1_tri pw k i j
    omega
theorem nearest_zero {pw ph : Nat} {z : Nat → Bool} {i : Nat} (hi : i < pw * ph) (h : z i = true) : nearest pw ph z i = 0 := by
  have h1 := nearTo_le (pw := pw) (ph := ph) (i := i) hi h
  have h2 := nearTo_pos pw ph z i (pw * ph)
  rw [l1_self] at h1
  unfold nearest
  omega

/-- What every way of narrowing down the distances ends in. -/
theorem nearest_unique {pw ph : Nat} {z : Nat → Bool} (f : Nat → Int) (hs : ∀ i, i < pw * ph → nearest pw ph z i ≤ f i) (hh : ∀ i, i < pw * ph → f i ≤ (pw : Int) + ph) (hz : ∀ i, i < pw * ph → z i = true → f i ≤ 0)
    (hn : ∀ i, i < pw * ph → ∀ j, j < pw * ph → l1 pw i j = 1 → f j ≤ f i + 1) {i : Nat} (hi : i < pw * ph) : f i = nearest pw ph z i := by
  have h1 := hs i hi
  rcases nearTo_cases pw ph z i (pw * ph) with hc | ⟨k, h2, h3, h4⟩
  · have := hh i hi
    unfold nearest at *
    omega
  · have h5 := below_l1 h2 f (hz k h2 h3) hn _ i hi rfl
    rw [l1_comm] at h5
    unfold nearest at *
    omega

/-! ### Narrowing down -/

/-- The state of the search: distances 'f', pixels 'q' that are still to be looked at. -/
structure Narrow (pw ph : Nat) (z : Nat → Bool) (f : Nat → Int) (q : Nat → Prop) : Prop where
  sound : ∀ i, i < pw * ph → nearest pw ph z i ≤ f i
  hi : ∀ i, i < pw * ph → f i ≤ (pw : Int) + ph
  zero : ∀ i, i < pw * ph → z i = true → f i ≤ 0
  done : ∀ i, i < pw * ph → ¬ q i → ∀ j, j < pw * ph → l1 pw i j = 1 → f j ≤ f i + 1

theorem Narrow.end_ {pw ph : Nat} {z : Nat → Bool} {f : Nat → Int} {q : Nat → Prop} (h : Narrow pw ph z f q) (hq : ∀ i, ¬ q i) {i : Nat} (hi : i < pw * ph) : f i = nearest pw ph z i :=
  nearest_unique f h.sound h.hi h.zero (fun i hi j hj e => h.done i hi (hq i) j hj e) hi

theorem Narrow.start {pw ph : Nat} {z : Nat → Bool} (f : Nat → Int) (q : Nat → Prop) (h0 : ∀ i, i < pw * ph → f i = if z i = true then 0 else (pw : Int) + ph) (hq : ∀ i, i < pw * ph → z i = true → q i) : Narrow pw ph z f q where
  sound i hi := by
    rw [h0 i hi]
    split
    · rename_i hz; rw [nearest_zero hi hz]; exact Int.le_refl _
    · exact nearTo_hi _ _ _ _ _
  hi i hi := by rw [h0 i hi]; split <;> omega
  zero i hi hz := by rw [h0 i hi, if_pos hz]; exact Int.le_refl _
  done i hi hn j hj _ := by
    have hz : ¬ z i = true := fun h => hn (hq i hi h)
    rw [h0 i hi, h0 j hj, if_neg hz]
    split <;> omega

/-- Pixel i is being looked at; 's' are its neighbours that have been. One more: nothing turns. -/
theorem Narrow.skip {pw ph : Nat} {z : Nat → Bool} {f : Nat → Int} {q : Nat → Prop} (h : Narrow pw ph z f q) {q' : Nat → Prop} (hq : ∀ j, q j → q' j) : Narrow pw ph z f q' :=
  ⟨h.sound, h.hi, h.zero, fun i hi hn => h.done i hi fun e => hn (hq i e)⟩

/-- A neighbour k of i gets a nearer distance. -/
theorem Narrow.step {pw ph : Nat} {z : Nat → Bool} {f : Nat → Int} {q : Nat → Prop} (h : Narrow pw ph z f q) {i k : Nat} (hi : i < pw * ph) (hk : k < pw * ph) (hik : l1 pw i k = 1) (hlt : f i + 1 < f k) (f' : Nat → Int) (hf : ∀ j, j ≠ k → f' j = f j) (hfk : f' k = f i + 1) (q' : Nat → Prop) (hq : ∀ j, q j → q' j) (hqk : q' k) : Narrow pw ph z f' q' where
  sound j hj := by
    by_cases e : j = k
    · subst e; rw [hfk]; have := h.sound i hi; have := nearest_step (ph := ph) (z := z) hik; omega
    · rw [hf j e]; exact h.sound j hj
  hi j hj := by
    by_cases e : j = k
    · subst e; rw [hfk]; have := h.hi _ hj; omega
    · rw [hf j e]; exact h.hi j hj
  zero j hj hz := by
    by_cases e : j = k
    · subst e; rw [hfk]; have := h.zero _ hj hz; omega
    · rw [hf j e]; exact h.zero j hj hz
  done j hj hn l hl hjl := by
    have hjk : j ≠ k := fun e => hn (e ▸ hqk)
    have h1 := h.done j hj (fun e => hn (hq j e)) l hl hjl
    rw [hf j hjk]
    by_cases e : l = k
    · subst e; rw [hfk]; omega
    · rw [hf l e]; exact h1

/-- All neighbours of i have been looked at. -/
theorem Narrow.finish {pw ph : Nat} {z : Nat → Bool} {f : Nat → Int} {q : Nat → Prop} {i : Nat} (h : Narrow pw ph z f (fun j => q j ∨ j = i)) (hn : ∀ k, k < pw * ph → l1 pw i k = 1 → f k ≤ f i + 1) : Narrow pw ph z f q :=
  ⟨h.sound, h.hi, h.zero, fun j hj hq l hl e => by
    by_cases ej : j = i
    · subst ej; exact hn l hl e
    · exact h.done j hj (fun hc => hc.elim hq ej) l hl e⟩

/-! ### Parts: what grows from a pixel on -/

/-- Pixel k is reached from i, along neighbours whose values are not 0 and that have no number yet. -/
inductive Reach (N pw : Nat) (e : Bool) (nz : Nat → Bool) (L : Nat → Int) (i : Nat) : Nat → Prop
  | base : Reach N pw e nz L i i
  | step {k l : Nat} : Reach N pw e nz L i k → l < N → nearB pw e k l = true → nz l = true → L l = 0 → Reach N pw e nz L i l

/-- The state of the search: numbers 'f', pixels 'q' that are still to be looked at; before it the numbers were L, n is new. -/
structure Fill (N pw : Nat) (e : Bool) (nz : Nat → Bool) (L : Nat → Int) (n : Int) (i : Nat) (f : Nat → Int) (q : Nat → Prop) : Prop where
  start : f i = n
  out : ∀ k, k < N → f k = L k ∨ (f k = n ∧ L k = 0 ∧ Reach N pw e nz L i k)
  done : ∀ k, k < N → f k = n → ¬ q k → ∀ l, l < N → nearB pw e k l = true → nz l = true → f l ≠ 0

theorem Fill.end_ {N pw : Nat} {e : Bool} {nz : Nat → Bool} {L : Nat → Int} {n : Int} {i : Nat} {f : Nat → Int} {q : Nat → Prop} (h : Fill N pw e nz L n i f q) (hq : ∀ k, ¬ q k) (hi : i < N) {k : Nat} (hk : k < N) :
    (Reach N pw e nz L i k → f k = n) ∧ (¬ Reach N pw e nz L i k → f k = L k) := by
  have hr : ∀ k, Reach N pw e nz L i k → k < N ∧ f k = n := by
    intro k hr
    induction hr with
    | base => exact ⟨hi, h.start⟩
    | step h1 h2 h3 h4 h5 ih =>
      refine ⟨h2, ?_⟩
      have hne := h.done _ ih.1 ih.2 (hq _) _ h2 h3 h4
      rcases h.out _ h2 with ho | ho
      · rw [h5] at ho; exact (hne ho).elim
      · exact ho.1
  refine ⟨fun hh => (hr k hh).2, fun hh => ?_⟩
  rcases h.out k hk with ho | ho
  · exact ho
  · exact (hh ho.2.2).elim

theorem Fill.begin {N pw : Nat} {e : Bool} {nz : Nat → Bool} {L : Nat → Int} {n : Int} {i : Nat} (hn : ∀ k, k < N → L k ≠ n) (hi : L i = 0) (f : Nat → Int) (hfi : f i = n) (hf : ∀ k, k ≠ i → f k = L k) (q : Nat → Prop) (hq : q i) : Fill N pw e nz L n i f q where
  start := hfi
  out k hk := by
    by_cases ek : k = i
    · subst ek; exact .inr ⟨hfi, hi, .base⟩
    · exact .inl (hf k ek)
  done k hk hfk hnq := by
    by_cases ek : k = i
    · subst ek; exact (hnq hq).elim
    · rw [hf k ek] at hfk; exact (hn k hk hfk).elim

theorem Fill.skip {N pw : Nat} {e : Bool} {nz : Nat → Bool} {L : Nat → Int} {n : Int} {i : Nat} {f : Nat → Int} {q : Nat → Prop} (h : Fill N pw e nz L n i f q) {q' : Nat → Prop} (hq : ∀ j, q j → q' j) : Fill N pw e nz L n i f q' :=
  ⟨h.start, h.out, fun k hk hf hn => h.done k hk hf fun e => hn (hq k e)⟩

/-- A neighbour l of k gets the number. -/
theorem Fill.step {N pw : Nat} {e : Bool} {nz : Nat → Bool} {L : Nat → Int} {n : Int} {i : Nat} {f : Nat → Int} {q : Nat → Prop} (h : Fill N pw e nz L n i f q) (hn : ∀ k, k < N → L k ≠ n) (hn0 : n ≠ 0) {k l : Nat} (hk : k < N) (hl : l < N) (hfk : f k = n) (hkl : nearB pw e k l = true) (hz : nz l = true) (hfl : f l = 0)
    (f' : Nat → Int) (hf : ∀ j, j ≠ l → f' j = f j) (hf' : f' l = n) (q' : Nat → Prop) (hq : ∀ j, q j → q' j) (hql : q' l) : Fill N pw e nz L n i f' q' where
  start := by
    by_cases ei : i = l
    · subst ei; exact hf'
    · rw [hf i ei]; exact h.start
  out j hj := by
    by_cases ej : j = l
    · subst ej
      refine .inr ⟨hf', ?_, ?_⟩
      · rcases h.out _ hj with ho | ho
        · rw [← ho]; exact hfl
        · exact ho.2.1
      · rcases h.out _ hk with ho | ho
        · rw [ho] at hfk; exact (hn k hk hfk).elim
        · refine ho.2.2.step hj hkl hz ?_
          rcases h.out _ hj with ho2 | ho2
          · rw [← ho2]; exact hfl
          · exact ho2.2.1
    · rw [hf j ej]; exact h.out j hj
  done j hj hfj hnq m hm hjm hzm := by
    have ejl : j ≠ l := fun e => hnq (e ▸ hql)
    rw [hf j ejl] at hfj
    have := h.done j hj hfj (fun e => hnq (hq j e)) m hm hjm hzm
    by_cases em : m = l
    · subst em; rw [hf']; exact hn0
    · rw [hf m em]; exact this

theorem Fill.finish {N pw : Nat} {e : Bool} {nz : Nat → Bool} {L : Nat → Int} {n : Int} {i : Nat} {f : Nat → Int} {q : Nat → Prop} {k : Nat} (h : Fill N pw e nz L n i f (fun j => q j ∨ j = k)) (hn : ∀ l, l < N → nearB pw e k l = true → nz l = true → f l ≠ 0) : Fill N pw e nz L n i f q :=
  ⟨h.start, h.out, fun j hj hf hq l hl hjl hz => by
    by_cases ej : j = k
    · subst ej; exact hn l hl hjl hz
    · exact h.done j hj hf (fun hc => hc.elim hq ej) l hl hjl hz⟩

/-! ### The neighbours of a pixel, by their places around it -/

/-- Place t of nine is a neighbour of pixel i in an image of this size, in the sense of four or eight. -/
def nbOk (pw ph : Nat) (e : Bool) (i t : Nat) : Bool :=
  (((t % 3 == 1) != (t / 3 == 1)) || (e && (t % 3 != 1 && t / 3 != 1))) && (decide (1 ≤ i % pw + t % 3) && decide (i % pw + t % 3 ≤ pw) && (decide (1 ≤ i / pw + t / 3) && decide (i / pw + t / 3 ≤ ph)))
def nbAt (pw i t : Nat) : Nat := (i / pw + t / 3 - 1) * pw + (i % pw + t % 3 - 1)
def nbs (pw ph : Nat) (e : Bool) (i : Nat) : List Nat := ((List.range 9).filter (nbOk pw ph e i)).map (nbAt pw i)

theorem nbs_near {pw ph : Nat} {e : Bool} {i k : Nat} (hi : i < pw * ph) (h : k ∈ nbs pw ph e i) : k < pw * ph ∧ nearB pw e i k = true := by
  have hp0 : 0 < pw := Nat.pos_of_ne_zero (by rintro rfl; simp at hi)
  simp only [nbs, List.mem_map, List.mem_filter, List.mem_range] at h
  obtain ⟨t, ⟨ht, hok⟩, rfl⟩ := h
  simp only [nbOk, Bool.and_eq_true, decide_eq_true_eq] at hok
  obtain ⟨hd, ⟨h1, h2⟩, h3, h4⟩ := hok
  refine ⟨idx_bound (by omega) (by omega), ?_⟩
  rw [nearB_comm]
  unfold nearB l1 nbAt
  rw [dX_at _ (by omega), dY_at _ (by omega)]
  generalize i % pw = x at *
  generalize i / pw = y at *
  have ht3 : t / 3 < 3 := by omega
  have ht4 : t % 3 < 3 := by omega
  generalize t % 3 = a at *
  generalize t / 3 = b at *
  have ha : a = 0 ∨ a = 1 ∨ a = 2 := by omega
  have hb : b = 0 ∨ b = 1 ∨ b = 2 := by omega
  cases e <;> rcases ha with rfl | rfl | rfl <;> rcases hb with rfl | rfl | rfl <;> simp at hd ⊢ <;> omega

theorem place_of {xi yi xk yk : Nat} {e : Bool} (h : ((xi : Int) - xk).natAbs + ((yi : Int) - yk).natAbs = 1 ∨ e = true ∧ ((xi : Int) - xk).natAbs = 1 ∧ ((yi : Int) - yk).natAbs = 1) :
    ∃ a b : Nat, a < 3 ∧ b < 3 ∧ xk + 1 = xi + a ∧ yk + 1 = yi + b ∧ (((a == 1) != (b == 1)) || (e && (a != 1 && b != 1))) = true := by
  have hdx : xk = xi + 1 ∨ xk = xi ∨ xk + 1 = xi := by omega
  have hdy : yk = yi + 1 ∨ yk = yi ∨ yk + 1 = yi := by omega
  have he : (xk ≠ xi → yk ≠ yi → e = true) := by
    intro h1 h2
    rcases h with h | h
    · omega
    · exact h.1
  rcases hdx with hx | hx | hx <;> rcases hdy with hy | hy | hy
  · exact ⟨2, 2, by omega, by omega, by omega, by omega, by rw [he (by omega) (by omega)]; rfl⟩
  · exact ⟨2, 1, by omega, by omega, by omega, by omega, rfl⟩
  · exact ⟨2, 0, by omega, by omega, by omega, by omega, by rw [he (by omega) (by omega)]; rfl⟩
  · exact ⟨1, 2, by omega, by omega, by omega, by omega, rfl⟩
  · omega
  · exact ⟨1, 0, by omega, by omega, by omega, by omega, rfl⟩
  · exact ⟨0, 2, by omega, by omega, by omega, by omega, by rw [he (by omega) (by omega)]; rfl⟩
  · exact ⟨0, 1, by omega, by omega, by omega, by omega, rfl⟩
  · exact ⟨0, 0, by omega, by omega, by omega, by omega, by rw [he (by omega) (by omega)]; rfl⟩

theorem near_nbs {pw ph : Nat} {e : Bool} {i k : Nat} (hi : i < pw * ph) (hk : k < pw * ph) (h : nearB pw e i k = true) : k ∈ nbs pw ph e i := by
  have hp0 : 0 < pw := Nat.pos_of_ne_zero (by rintro rfl; simp at hi)
  have kx : k % pw < pw := Nat.mod_lt _ hp0
  have ky : k / pw < ph := Nat.div_lt_of_lt_mul hk
  have h' : (((i % pw : Nat) : Int) - ((k % pw : Nat) : Int)).natAbs + (((i / pw : Nat) : Int) - ((k / pw : Nat) : Int)).natAbs = 1 ∨ e = true ∧ (((i % pw : Nat) : Int) - ((k % pw : Nat) : Int)).natAbs = 1 ∧ (((i / pw : Nat) : Int) - ((k / pw : Nat) : Int)).natAbs = 1 := by
    unfold nearB at h
    rcases (Bool.or_eq_true _ _ ▸ h : _ ∨ _) with h | h
    · exact .inl (of_decide_eq_true h)
    · rw [Bool.and_eq_true, Bool.and_eq_true] at h
      exact .inr ⟨h.1, of_decide_eq_true h.2.1, of_decide_eq_true h.2.2⟩
  obtain ⟨a, b, ha, hb, h1, h2, h3⟩ := place_of h'
  have e1 : (b * 3 + a) % 3 = a := by omega
  have e2 : (b * 3 + a) / 3 = b := by omega
  simp only [nbs, List.mem_map, List.mem_filter, List.mem_range]
  refine ⟨b * 3 + a, ⟨by omega, ?_⟩, ?_⟩
  · simp only [nbOk, e1, e2, h3, Bool.true_and, Bool.and_eq_true, decide_eq_true_eq]
    clear h h'
    generalize i % pw = xi at *
    generalize i / pw = yi at *
    generalize k % pw = xk at *
    generalize k / pw = yk at *
    omega
  · unfold nbAt
    rw [e1, e2, show i / pw + b - 1 = k / pw by rw [← h2, Nat.add_sub_cancel], show i % pw + a - 1 = k % pw by rw [← h1, Nat.add_sub_cancel], idx_split]

theorem nbs_length (pw ph : Nat) (e : Bool) (i : Nat) : (nbs pw ph e i).length ≤ 9 := by
  unfold nbs
  rw [List.length_map]
  exact Nat.le_trans (List.length_filter_le _ _) (by simp)

end Go.Proofs.Ytbfigbpjoaccdaa
