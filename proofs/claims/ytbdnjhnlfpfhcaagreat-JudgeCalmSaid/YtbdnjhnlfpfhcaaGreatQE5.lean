/- Contracts and laws (Near, Low, Morph, ImgR, ImgM, ImgS). -/
import Derived.Test.YtbdnjhnlfpfhcaaGreatQE4
namespace Go.Proofs.YtbdnjhnlfpfhcaaGreat
set_option linter.unusedVariables false
set_option linter.unusedSimpArgs false

/-- The columns', the rows' difference of two indexes. -/
def dX (pw i k : Nat) : Nat := (((i % pw : Nat) : Int) - ((k % pw : Nat) : Int)).natAbs
def dY (pw i k : Nat) : Nat := (((i / pw : Nat) : Int) - ((k / pw : Nat) : Int)).natAbs
def l1 (pw i k : Nat) : Nat := dX pw i k + dY pw i k
/-- Two pixels are neighbours, in the sense of four or of eight. -/
def nearB (pw : Nat) (eight : Bool) (i k : Nat) : Bool := decide (l1 pw i k = 1) || (eight && (decide (dX pw i k = 1) && decide (dY pw i k = 1)))

theorem l1_self (pw i : Nat) : l1 pw i i = 0 := by simp [l1, dX, dY]
theorem l1_tri (pw i j k : Nat) : l1 pw i k ≤ l1 pw i j + l1 pw j k := by unfold l1 dX dY; omega
theorem idx_split (pw i : Nat) : i / pw * pw + i % pw = i := by rw [Nat.mul_comm]; exact Nat.div_add_mod i pw

/-! ### The least distance to a pixel with the value 0 -/

/-- The least distance to the first k pixels' zeros; the sides' sum if there are none. 'z' tells the zeros. -/
def nearTo (pw ph : Nat) (z : Nat → Bool) (i : Nat) : Nat → Int
  | 0 => (pw : Int) + ph
  | k + 1 => if z k = true then min (nearTo pw ph z i k) (l1 pw k i : Nat) else nearTo pw ph z i k

def nearest (pw ph : Nat) (z : Nat → Bool) (i : Nat) : Int := nearTo pw ph z i (pw * ph)

theorem nearTo_le {pw ph : Nat} {z : Nat → Bool} {i m k : Nat} (hk : k < m) (hz : z k = true) : nearTo pw ph z i m ≤ (l1 pw k i : Nat) := by
  induction m with
  | zero => omega
  | succ m ih =>
    unfold nearTo
    by_cases h : k = m
    · subst h; rw [if_pos hz]; omega
    · have := ih (by omega)
      split <;> omega
theorem nearTo_hi (pw ph : Nat) (z : Nat → Bool) (i m : Nat) : nearTo pw ph z i m ≤ (pw : Int) + ph := by
  induction m with
  | zero => exact Int.le_refl _
  | succ m ih => unfold nearTo; split <;> omega
theorem nearTo_cases (pw ph : Nat) (z : Nat → Bool) (i m : Nat) : nearTo pw ph z i m = (pw : Int) + ph ∨ ∃ k, k < m ∧ z k = true ∧ nearTo pw ph z i m = (l1 pw k i : Nat) := by
  induction m with
  | zero => exact .inl rfl
  | succ m ih =>
    unfold nearTo
    by_cases hz : z m = true
    · rw [if_pos hz]
      by_cases hle : nearTo pw ph z i m ≤ (l1 pw m i : Nat)
      · rw [show min (nearTo pw ph z i m) ((l1 pw m i : Nat) : Int) = nearTo pw ph z i m by omega]
        rcases ih with h | ⟨k, h1, h2, h3⟩
        · exact .inl h
        · exact .inr ⟨k, by omega, h2, h3⟩
      · rw [show min (nearTo pw ph z i m) ((l1 pw m i : Nat) : Int) = (l1 pw m i : Nat) by omega]
        exact .inr ⟨m, by omega, hz, rfl⟩
    · rw [if_neg hz]
      rcases ih with h | ⟨k, h1, h2, h3⟩
      · exact .inl h
      · exact .inr ⟨k, by omega, h2, h3⟩
theorem nearTo_pos (pw ph : Nat) (z : Nat → Bool) (i m : Nat) : 0 ≤ nearTo pw ph z i m := by
  rcases nearTo_cases pw ph z i m with h | ⟨k, _, _, h⟩ <;> omega

theorem nearest_step {pw ph : Nat} {z : Nat → Bool} {i j : Nat} (h : l1 pw i j = 1) : nearest pw ph z j ≤ nearest pw ph z i + 1 := by
  unfold nearest
  rcases nearTo_cases pw ph z i (pw * ph) with hc | ⟨k, h1, h2, h3⟩
  · have := nearTo_hi pw ph z j (pw * ph); omega
  · have h4 := nearTo_le (pw := pw) (ph := ph) (i := j) h1 h2
    have h5 := l1_tri pw k i j
    omega
theorem nearest_zero {pw ph : Nat} {z : Nat → Bool} {i : Nat} (hi : i < pw * ph) (h : z i = true) : nearest pw ph z i = 0 := by
  have h1 := nearTo_le (pw := pw) (ph := ph) (i := i) hi h
  have h2 := nearTo_pos pw ph z i (pw * ph)
  rw [l1_self] at h1
  unfold nearest
  omega

/-! ### Narrowing down -/

/-- The state of the search: distances 'f', pixels 'q' that are still to be looked at. -/
structure Narrow (pw ph : Nat) (z : Nat → Bool) (f : Nat → Int) (q : Nat → Prop) : Prop where
  sound : ∀ i, i < pw * ph → nearest pw ph z i ≤ f i
  hi : ∀ i, i < pw * ph → f i ≤ (pw : Int) + ph
  zero : ∀ i, i < pw * ph → z i = true → f i ≤ 0
  done : ∀ i, i < pw * ph → ¬ q i → ∀ j, j < pw * ph → l1 pw i j = 1 → f j ≤ f i + 1

theorem Narrow.start {pw ph : Nat} {z : Nat → Bool} (f : Nat → Int) (q : Nat → Prop) (h0 : ∀ i, i < pw * ph → f i = if z i = true then 0 else (pw : Int) + ph) (hq : ∀ i, i < pw * ph → z i = true → q i) : Narrow pw ph z f q where
  sound i hi := by
    rw [h0 i hi]
    split
    · rename_i hz; rw [nearest_zero hi hz]; exact Int.le_refl _
    · exact nearTo_hi _ _ _ _ _
  hi i hi := by rw [h0 i hi]; split <;> omega
  zero i hi hz := by rw [h0 i hi, if_pos hz]; exact Int.le_refl _
  done i hi hn j hj _ := by
    have hz : ¬ z i = true := fun h => hn (hq i hi h)
    rw [h0 i hi, h0 j hj, if_neg hz]
    split <;> omega

/-- Pixel i is being looked at; 's' are its neighbours that have been. One more: nothing turns. -/
theorem Narrow.skip {pw ph : Nat} {z : Nat → Bool} {f : Nat → Int} {q : Nat → Prop} (h : Narrow pw ph z f q) {q' : Nat → Prop} (hq : ∀ j, q j → q' j) : Narrow pw ph z f q' :=
  ⟨h.sound, h.hi, h.zero, fun i hi hn => h.done i hi fun e => hn (hq i e)⟩

/-- A neighbour k of i gets a nearer distance. -/
theorem Narrow.step {pw ph : Nat} {z : Nat → Bool} {f : Nat → Int} {q : Nat → Prop} (h : Narrow pw ph z f q) {i k : Nat} (hi : i < pw * ph) (hk : k < pw * ph) (hik : l1 pw i k = 1) (hlt : f i + 1 < f k) (f' : Nat → Int) (hf : ∀ j, j ≠ k → f' j = f j) (hfk : f' k = f i + 1) (q' : Nat → Prop) (hq : ∀ j, q j → q' j) (hqk : q' k) : Narrow pw ph z f' q' where
  sound j hj := by
    by_cases e : j = k
    · subst e; rw [hfk]; have := h.sound i hi; have := nearest_step (ph := ph) (z := z) hik; omega
    · rw [hf j e]; exact h.sound j hj
  hi j hj := by
    by_cases e : j = k
    · subst e; rw [hfk]; have := h.hi _ hj; omega
    · rw [hf j e]; exact h.hi j hj
  zero j hj hz := by
    by_cases e : j = k
    · subst e; rw [hfk]; have := h.zero _ hj hz; omega
    · rw [hf j e]; exact h.zero j hj hz
  done j hj hn l hl hjl := by
    have hjk : j ≠ k := fun e => hn (e ▸ hqk)
    have h1 := h.done j hj (fun e => hn (hq j e)) l hl hjl
    rw [hf j hjk]
    by_cases e : l = k
    · subst e; rw [hfk]; omega
    · rw [hf l e]; exact h1

/-! ### Parts: what grows from a pixel on -/

/-- Pixel k is reached from i, along neighbours whose values are not 0 and that have no number yet. -/
inductive Reach (N pw : Nat) (e : Bool) (nz : Nat → Bool) (L : Nat → Int) (i : Nat) : Nat → Prop
  | base : Reach N pw e nz L i i
  | step {k l : Nat} : Reach N pw e nz L i k → l < N → nearB pw e k l = true → nz l = true → L l = 0 → Reach N pw e nz L i l

/-- The state of the search: numbers 'f', pixels 'q' that are still to be looked at; before it the numbers were L, n is new. -/
structure Fill (N pw : Nat) (e : Bool) (nz : Nat → Bool) (L : Nat → Int) (n : Int) (i : Nat) (f : Nat → Int) (q : Nat → Prop) : Prop where
  start : f i = n
  out : ∀ k, k < N → f k = L k ∨ (f k = n ∧ L k = 0 ∧ Reach N pw e nz L i k)
  done : ∀ k, k < N → f k = n → ¬ q k → ∀ l, l < N → nearB pw e k l = true → nz l = true → f l ≠ 0

theorem Fill.skip {N pw : Nat} {e : Bool} {nz : Nat → Bool} {L : Nat → Int} {n : Int} {i : Nat} {f : Nat → Int} {q : Nat → Prop} (h : Fill N pw e nz L n i f q) {q' : Nat → Prop} (hq : ∀ j, q j → q' j) : Fill N pw e nz L n i f q' :=
  ⟨h.start, h.out, fun k hk hf hn => h.done k hk hf fun e => hn (hq k e)⟩

/-- A neighbour l of k gets the number. -/
theorem Fill.step {N pw : Nat} {e : Bool} {nz : Nat → Bool} {L : Nat → Int} {n : Int} {i : Nat} {f : Nat → Int} {q : Nat → Prop} (h : Fill N pw e nz L n i f q) (hn : ∀ k, k < N → L k ≠ n) (hn0 : n ≠ 0) {k l : Nat} (hk : k < N) (hl : l < N) (hfk : f k = n) (hkl : nearB pw e k l = true) (hz : nz l = true) (hfl : f l = 0)
    (f' : Nat → Int) (hf : ∀ j, j ≠ l → f' j = f j) (hf' : f' l = n) (q' : Nat → Prop) (hq : ∀ j, q j → q' j) (hql : q' l) : Fill N pw e nz L n i f' q' where
  start := by
    by_cases ei : i = l
    · subst ei; exact hf'
    · rw [hf i ei]; exact h.start
  out j hj := by
    by_cases ej : j = l
    · subst ej
      refine .inr ⟨hf', ?_, ?_⟩
      · rcases h.out _ hj with ho | ho
        · rw [← ho]; exact hfl
        · exact ho.2.1
      · rcases h.out _ hk with ho | ho
        · rw [ho] at hfk; exact (hn k hk hfk).elim
        · refine ho.2.2.step hj hkl hz ?_
          rcases h.out _ hj with ho2 | ho2
          · rw [← ho2]; exact hfl
          · exact ho2.2.1
    · rw [hf j ej]; exact h.out j hj
  done j hj hfj hnq m hm hjm hzm := by
    have ejl : j ≠ l := fun e => hnq (e ▸ hql)
    rw [hf j ejl] at hfj
    have := h.done j hj hfj (fun e => hnq (hq j e)) m hm hjm hzm
    by_cases em : m = l
    · subst em; rw [hf']; exact hn0
    · rw [hf m em]; exact this

/-! ### The neighbours of a pixel, by their places around it -/

end Go.Proofs.YtbdnjhnlfpfhcaaGreat

namespace Go.Proofs.YtbdnjhnlfpfhcaaGreat
set_option linter.unusedVariables false
set_option linter.unusedSimpArgs false

/-- Pixel k is lower than pixel b: by its value, then by its index. -/
def better (m : Nat → Int) (b k : Nat) : Bool := decide (m k < m b) || (decide (m k = m b) && decide (k < b))
theorem better_iff {m : Nat → Int} {b k : Nat} : better m b k = true ↔ m k < m b ∨ (m k = m b ∧ k < b) := by simp [better]
theorem better_not {m : Nat → Int} {b k : Nat} : better m b k = false ↔ ¬ (m k < m b ∨ (m k = m b ∧ k < b)) := by rw [← better_iff]; simp

/-- b is the lowest of i and those that s tells. -/
structure IsLow (m : Nat → Int) (i : Nat) (s : Nat → Prop) (b : Nat) : Prop where
  mem : b = i ∨ s b
  least : ∀ c, c = i ∨ s c → better m b c = false

theorem IsLow.unique {m : Nat → Int} {i : Nat} {s : Nat → Prop} {a b : Nat} (ha : IsLow m i s a) (hb : IsLow m i s b) : a = b := by
  have h1 := better_not.1 (ha.least b hb.mem)
  have h2 := better_not.1 (hb.least a ha.mem)
  omega
theorem IsLow.start (m : Nat → Int) (i : Nat) {s : Nat → Prop} (hs : ∀ c, ¬ s c) : IsLow m i s i :=
  ⟨.inl rfl, fun c hc => by
    rcases hc with rfl | hc
    · exact better_not.2 (by omega)
    · exact (hs c hc).elim⟩
theorem IsLow.step {m : Nat → Int} {i : Nat} {s s' : Nat → Prop} {b k : Nat} (h : IsLow m i s b) (hs : ∀ c, s' c ↔ s c ∨ c = k) : IsLow m i s' (if better m b k = true then k else b) := by
  by_cases hk : better m b k = true
  · rw [if_pos hk]
    refine ⟨.inr ((hs k).2 (.inr rfl)), fun c hc => better_not.2 ?_⟩
    have h1 := better_iff.1 hk
    have hc' : (c = i ∨ s c) ∨ c = k := by
      rcases hc with h | h
      · exact .inl (.inl h)
      · rcases (hs c).1 h with h | h
        · exact .inl (.inr h)
        · exact .inr h
    rcases hc' with h2 | h2
    · have := better_not.1 (h.least c h2)
      omega
    · subst h2; omega
  · rw [if_neg hk]
    refine ⟨h.mem.elim .inl fun e => .inr ((hs b).2 (.inl e)), fun c hc => ?_⟩
    rcases hc with h2 | h2
    · exact h.least c (.inl h2)
    · rcases (hs c).1 h2 with h2 | h2
      · exact h.least c (.inr h2)
      · subst h2; simpa using hk

/-! ### Where going on to the lowest neighbour ends -/

end Go.Proofs.YtbdnjhnlfpfhcaaGreat

namespace Go.Proofs.YtbdnjhnlfpfhcaaGreat
set_option linter.unusedVariables false
set_option linter.unusedSimpArgs false

/-- The greatest (mx) or least of the values 'val' with numbers below t that count ('ok'). -/
def morTo (mx : Bool) (ok : Nat → Bool) (val : Nat → Int) : Nat → Int
  | 0 => if mx = true then -2147483648 else 2147483648
  | t + 1 => if ok t = true then (if mx = true then max (morTo mx ok val t) (val t) else min (morTo mx ok val t) (val t)) else morTo mx ok val t

theorem mor_le {ok : Nat → Bool} {val : Nat → Int} {n : Nat} {B : Int} : morTo true ok val n ≤ B ↔ -2147483648 ≤ B ∧ ∀ t, t < n → ok t = true → val t ≤ B := by
  induction n with
  | zero =>
    simp only [morTo, if_true]
    exact ⟨fun h => ⟨h, fun t ht => by omega⟩, fun h => h.1⟩
  | succ n ih =>
    simp only [morTo, if_true]
    have key : (∀ t, t < n + 1 → ok t = true → val t ≤ B) ↔ (∀ t, t < n → ok t = true → val t ≤ B) ∧ (ok n = true → val n ≤ B) := by
      constructor
      · exact fun h => ⟨fun t ht => h t (by omega), h n (by omega)⟩
      · rintro ⟨h1, h2⟩ t ht
        by_cases e : t = n
        · subst e; exact h2
        · exact h1 t (by omega)
    rw [key]
    by_cases h : ok n = true
    · rw [if_pos h]
      constructor
      · intro hm
        have := ih.1 (by omega)
        exact ⟨this.1, this.2, fun _ => by omega⟩
      · rintro ⟨h1, h2, h3⟩
        have := ih.2 ⟨h1, h2⟩
        have := h3 h
        omega
    · rw [if_neg h, ih]
      exact ⟨fun ⟨h1, h2⟩ => ⟨h1, h2, fun h' => (h h').elim⟩, fun ⟨h1, h2, _⟩ => ⟨h1, h2⟩⟩

theorem le_mor {ok : Nat → Bool} {val : Nat → Int} {n : Nat} {B : Int} : B ≤ morTo false ok val n ↔ B ≤ 2147483648 ∧ ∀ t, t < n → ok t = true → B ≤ val t := by
  induction n with
  | zero =>
    simp only [morTo]
    exact ⟨fun h => ⟨h, fun t ht => by omega⟩, fun h => h.1⟩
  | succ n ih =>
    have e0 : morTo false ok val (n + 1) = if ok n = true then min (morTo false ok val n) (val n) else morTo false ok val n := by simp [morTo]
    rw [e0]
    have key : (∀ t, t < n + 1 → ok t = true → B ≤ val t) ↔ (∀ t, t < n → ok t = true → B ≤ val t) ∧ (ok n = true → B ≤ val n) := by
      constructor
      · exact fun h => ⟨fun t ht => h t (by omega), h n (by omega)⟩
      · rintro ⟨h1, h2⟩ t ht
        by_cases e : t = n
        · subst e; exact h2
        · exact h1 t (by omega)
    rw [key]
    by_cases h : ok n = true
    · rw [if_pos h]
      constructor
      · intro hm
        have := ih.1 (by omega)
        exact ⟨this.1, this.2, fun _ => by omega⟩
      · rintro ⟨h1, h2, h3⟩
        have := ih.2 ⟨h1, h2⟩
        have := h3 h
        omega
    · rw [if_neg h, ih]
      exact ⟨fun ⟨h1, h2⟩ => ⟨h1, h2, fun h' => (h h').elim⟩, fun ⟨h1, h2, _⟩ => ⟨h1, h2⟩⟩

theorem mor_bd {mx : Bool} {ok : Nat → Bool} {val : Nat → Int} (h : ∀ t, -2147483648 ≤ val t ∧ val t ≤ 2147483648) (n : Nat) : -2147483648 ≤ morTo mx ok val n ∧ morTo mx ok val n ≤ 2147483648 := by
  induction n with
  | zero => cases mx <;> simp [morTo]
  | succ n ih =>
    have := h n
    simp only [morTo]
    split
    · split <;> omega
    · exact ih

end Go.Proofs.YtbdnjhnlfpfhcaaGreat

namespace Go.Proofs.YtbdnjhnlfpfhcaaGreat
open Go Go.RowKit Go.Shelf
set_option linter.unusedVariables false
set_option linter.unusedSimpArgs false

/-- The slice at 'a' reads as the truth values 'bs', in blocks below 'B'. -/
def RdB (B : Nat) (W : World) (a : Option Addr) (bs : List Bool) : Prop :=
  bs = [] ∨ ∃ b o, a = some ⟨b, o, none⟩ ∧ b < B ∧ ∀ i, i < bs.length → W.cell? ⟨b, o + i, none⟩ = some (.bool (bs[i]?.getD false))

theorem RdB.below {B B' : Nat} {W W' : World} {a : Option Addr} {bs : List Bool} (h : RdB B W a bs) (hB : B ≤ B') (hb : Below B' W W') : RdB B W' a bs := by
  rcases h with h | ⟨b, o, h1, h2, h3⟩
  · exact .inl h
  · exact .inr ⟨b, o, h1, h2, fun i hi => (hb.cell (p := ⟨b, o + i, none⟩) (by show b < B'; omega)).trans (h3 i hi)⟩

theorem RdB.mono {B B' : Nat} {W : World} {a : Option Addr} {bs : List Bool} (h : RdB B W a bs) (hB : B ≤ B') : RdB B' W a bs := by
  rcases h with h | ⟨b, o, h1, h2, h3⟩
  · exact .inl h
  · exact .inr ⟨b, o, h1, by omega, h3⟩

theorem rdB_at {B : Nat} {W : World} {a : Option Addr} {bs : List Bool} {n : Nat} (h : RdB B W a bs) (hn : bs.length = n) (h0 : 0 < n) : ∃ b o, a = some ⟨b, o, none⟩ ∧ b < B ∧ ∀ i, i < n → W.cell? ⟨b, o + i, none⟩ = some (.bool (bs[i]?.getD false)) := by
  rcases h with h | ⟨b, o, h1, h2, h3⟩
  · subst h; simp at hn; omega
  · exact ⟨b, o, h1, h2, fun i hi => h3 i (by omega)⟩

/-- A number may be a side. -/
def sideB (n : Int) : Bool := decide (n = 1 ∨ n = 3 ∨ n = 5)
theorem sideB_true {n : Int} (h : sideB n = true) : n = 1 ∨ n = 3 ∨ n = 5 := of_decide_eq_true h

/-! ### Lists that contain a value -/

theorem anyTo_succ {α : Type} (p : α → Bool) {xs : List α} {k : Nat} {x : α} (hx : xs[k]? = some x) : (xs.take (k + 1)).any p = ((xs.take k).any p || p x) := by
  rw [List.take_add_one, hx, List.any_append]
  simp

set_option maxHeartbeats 1000000 in
theorem index_int (v : Int) (a : Option Addr) (c n : Nat) (xs : List Int) (hn : Hid (xs.length = n)) (w : World) (hm : n ≤ 9223372036854775807) (hr : Rd w.heap.size w a xs) :
    Calls Tryz.prog 122 #[.slice a n c, .int .i64 v] w fun e w' => (∃ r : Int, e = .returned (.int .i64 r) ∧ decide (0 ≤ r) = xs.any (fun x => decide (v = x))) ∧ w = w' := by
  go_enter Tryz.func122, Tryz.ntmps122
  go_wp2_with fail
  go_loop [5, 8] (fun u i => ∃ k : Nat, k ≤ n ∧ i = .int .i64 (k : Int) ∧ Hid ((xs.take k).any (fun x => decide (v = x)) = false)) (fun u i => n - (intOf i).toNat)
  case atStart => exact ⟨0, Nat.zero_le _, rfl, Lib.hid rfl⟩
  case round =>
    obtain ⟨k, hk, rfl, hall⟩ := hrel
    by_cases hlt : k < n
    · obtain ⟨b, o, rfl, hb, hc⟩ := rd_at hr hn.out (by omega)
      have hcell := hc k hlt
      have hs := anyTo_succ (fun x => decide (v = x)) (xs := xs) (k := k) (x := px xs k) (by unfold px; simp only [Int.toNat_natCast]; rw [List.getElem?_eq_getElem (by rw [hn.out]; exact hlt)]; rfl)
      rw [hall.out, Bool.false_or] at hs
      have hany : decide (v = px xs k) = true → xs.any (fun x => decide (v = x)) = true := by
        intro h
        rw [h] at hs
        rw [← List.take_append_drop (k + 1) xs, List.any_append, hs]; rfl
      generalize px xs k = x at *
      have hsH := Lib.hid hs
      have haH := Lib.hid hany
      clear hc hs hany
      by_cases hx : v = x
      · subst hx
        go_wp2_with fail
        go_ret
        exact ⟨⟨k, rfl, by rw [haH.out (by simp)]; simp⟩, rfl⟩
      · go_wp2_with fail
        go_round
        case rel => exact ⟨k + 1, by omega, by go_num, Lib.hid (by rw [hsH.out]; simp [hx])⟩
        case measure => simp [intOf]; omega
    · go_wp2_with fail
      go_ret
      refine ⟨⟨-1, rfl, ?_⟩, rfl⟩
      have h := hall.out
      rw [List.take_of_length_le (by have := hn.out; omega)] at h
      rw [h]; rfl

set_option maxHeartbeats 1000000 in
theorem index_bool (v : Bool) (a : Option Addr) (c n : Nat) (xs : List Bool) (hn : Hid (xs.length = n)) (w : World) (hm : n ≤ 9223372036854775807) (hr : RdB w.heap.size w a xs) :
    Calls Tryz.prog 110 #[.slice a n c, .bool v] w fun e w' => (∃ r : Int, e = .returned (.int .i64 r) ∧ decide (0 ≤ r) = xs.any (fun x => decide (v = x))) ∧ w = w' := by
  go_enter Tryz.func110, Tryz.ntmps110
  go_wp2_with fail
  go_loop [5, 8] (fun u i => ∃ k : Nat, k ≤ n ∧ i = .int .i64 (k : Int) ∧ Hid ((xs.take k).any (fun x => decide (v = x)) = false)) (fun u i => n - (intOf i).toNat)
  case atStart => exact ⟨0, Nat.zero_le _, rfl, Lib.hid rfl⟩
  case round =>
    obtain ⟨k, hk, rfl, hall⟩ := hrel
    by_cases hlt : k < n
    · obtain ⟨b, o, rfl, hb, hc⟩ := rdB_at hr hn.out (by omega)
      have hcell := hc k hlt
      have hs := anyTo_succ (fun x => decide (v = x)) (xs := xs) (k := k) (x := xs[k]?.getD false) (by rw [List.getElem?_eq_getElem (by rw [hn.out]; exact hlt)]; rfl)
      rw [hall.out, Bool.false_or] at hs
      have hany : decide (v = xs[k]?.getD false) = true → xs.any (fun x => decide (v = x)) = true := by
        intro h
        rw [h] at hs
        rw [← List.take_append_drop (k + 1) xs, List.any_append, hs]; rfl
      generalize xs[k]?.getD false = x at *
      have hsH := Lib.hid hs
      have haH := Lib.hid hany
      clear hc hs hany
      by_cases hx : v = x
      · subst hx
        go_wp2_with fail
        go_ret
        exact ⟨⟨k, rfl, by rw [haH.out (by simp)]; simp⟩, rfl⟩
      · have hxb : (v == x) = false := by simpa using hx
        have hx2 := Lib.hid (show decide (v = x) = false by simpa using hx)
        clear hx
        go_wp2_with fail
        go_round
        case rel => exact ⟨k + 1, by omega, by go_num, Lib.hid (by rw [hsH.out, hx2.out])⟩
        case measure => simp [intOf]; omega
    · go_wp2_with fail
      go_ret
      refine ⟨⟨-1, rfl, ?_⟩, rfl⟩
      have h := hall.out
      rw [List.take_of_length_le (by have := hn.out; omega)] at h
      rw [h]; rfl

theorem contains_int (v : Int) (r : Bool) (a : Option Addr) (c n : Nat) (xs : List Int) (hn : Hid (xs.length = n)) (hres : Hid (xs.any (fun x => decide (v = x)) = r)) (w : World) (hm : n ≤ 9223372036854775807) (hr : Rd w.heap.size w a xs) :
    Calls Tryz.prog 109 #[.slice a n c, .int .i64 v] w fun e w' => e = .returned (.bool r) ∧ w = w' := by
  go_enter Tryz.func109, Tryz.ntmps109
  go_wp2_with fail
  refine (index_int v a c n xs hn w hm hr).mono ?_
  rintro e w' ⟨⟨i, rfl, hi⟩, rfl⟩
  have hiH := Lib.hid (hi.trans hres.out)
  clear hi
  go_wp2_with fail
  go_ret
  exact ⟨ret_bool hiH.out, rfl⟩

theorem contains_bool (v r : Bool) (a : Option Addr) (c n : Nat) (xs : List Bool) (hn : Hid (xs.length = n)) (hres : Hid (xs.any (fun x => decide (v = x)) = r)) (w : World) (hm : n ≤ 9223372036854775807) (hr : RdB w.heap.size w a xs) :
    Calls Tryz.prog 91 #[.slice a n c, .bool v] w fun e w' => e = .returned (.bool r) ∧ w = w' := by
  go_enter Tryz.func91, Tryz.ntmps91
  go_wp2_with fail
  refine (index_bool v a c n xs hn w hm hr).mono ?_
  rintro e w' ⟨⟨i, rfl, hi⟩, rfl⟩
  have hiH := Lib.hid (hi.trans hres.out)
  clear hi
  go_wp2_with fail
  go_ret
  exact ⟨ret_bool hiH.out, rfl⟩

theorem contains3 (v : Int) (r : Bool) (hres : Hid (sideB v = r)) (c : Nat) (w : World) (b : Nat) (k : Blk w b 3 #[.int .i64 1, .int .i64 3, .int .i64 5]) :
    Calls Tryz.prog 109 #[.slice (some ⟨b, 0, none⟩) 3 c, .int .i64 v] w fun e w' => e = .returned (.bool r) ∧ w = w' :=
  contains_int v r (some ⟨b, 0, none⟩) c 3 [1, 3, 5] (Lib.hid rfl) (Lib.hid (by rw [← hres.out]; simp [sideB, Bool.or_assoc])) w (by omega) (.inr ⟨b, 0, rfl, k.lt, fun i hi => by
    have : i = 0 ∨ i = 1 ∨ i = 2 := by simp at hi; omega
    rcases this with rfl | rfl | rfl <;> exact k.cell rfl⟩)

/-- Two numbers are sides of something with n entries. -/
def sidesB (sw sh : Int) (n : Nat) : Bool := (sideB sw && sideB sh) && decide ((n : Int) = sw * sh)
theorem sidesB_true {sw sh : Int} {n : Nat} (h : sidesB sw sh n = true) : (sw = 1 ∨ sw = 3 ∨ sw = 5) ∧ (sh = 1 ∨ sh = 3 ∨ sh = 5) ∧ (n : Int) = sw * sh := by
  simp only [sidesB, Bool.and_eq_true, decide_eq_true_eq] at h
  exact ⟨sideB_true h.1.1, sideB_true h.1.2, h.2⟩

set_option maxHeartbeats 1000000 in
theorem sides_any (sw sh : Int) (n : Nat) (r : Bool) (hres : Hid (sidesB sw sh n = r)) (w : World) :
    Calls Tryz.prog 90 #[.int .i64 sw, .int .i64 sh, .int .i64 n] w fun e w' => e = .returned (.bool r) ∧ Below w.heap.size w w' := by
  have k1 := Blk.new w 3 #[.int .i64 1, .int .i64 3, .int .i64 5]
  have k2 := Blk.new (w.alloc (.cells #[.int .i64 1, .int .i64 3, .int .i64 5] 3)) 3 #[.int .i64 1, .int .i64 3, .int .i64 5]
  simp only [World.size_alloc] at k2
  have hB1 := below_al (Below.refl _ w) (.cells #[.int .i64 1, .int .i64 3, .int .i64 5] 3)
  have hB2 := below_al hB1 (.cells #[.int .i64 1, .int .i64 3, .int .i64 5] 3)
  obtain ⟨v1, hv1⟩ : ∃ v, sideB sw = v := ⟨_, rfl⟩
  have h1 := Lib.hid hv1
  obtain ⟨v2, hv2⟩ : ∃ v, sideB sh = v := ⟨_, rfl⟩
  have h2 := Lib.hid hv2
  have hres' : ((v1 && v2) && decide ((n : Int) = sw * sh)) = r := by rw [← hv1, ← hv2]; exact hres.out
  have hr' := Lib.hid hres'
  clear hv1 hv2 hres'
  cases v1 with
  | false =>
    go_enter Tryz.func90, Tryz.ntmps90
    go_wp2_with fail
    refine (contains3 sw false h1 _ _ _ k1).mono ?_
    rintro e w' ⟨rfl, rfl⟩
    go_wp2_with fail
    go_ret
    exact ⟨ret_bool hr'.out, hB1⟩
  | true =>
    cases v2 with
    | false =>
      go_enter Tryz.func90, Tryz.ntmps90
      go_wp2_with fail
      refine (contains3 sw true h1 _ _ _ k1).mono ?_
      rintro e w' ⟨rfl, rfl⟩
      go_wp2_with fail
      refine (contains3 sh false h2 _ _ _ k2).mono ?_
      rintro e w' ⟨rfl, rfl⟩
      go_wp2_with fail
      go_ret
      exact ⟨ret_bool hr'.out, hB2⟩
    | true =>
      have m := sideB_true h1.out
      have m' := sideB_true h2.out
      obtain ⟨m1, m2⟩ := mul_small (a := sw) (b := sh) (m := 5) (n := 5) (by omega) (by omega) (by omega) (by omega)
      clear m m'
      go_enter Tryz.func90, Tryz.ntmps90
      go_wp2_with fail
      refine (contains3 sw true h1 _ _ _ k1).mono ?_
      rintro e w' ⟨rfl, rfl⟩
      go_wp2_with fail
      refine (contains3 sh true h2 _ _ _ k2).mono ?_
      rintro e w' ⟨rfl, rfl⟩
      go_wp2_with fail
      go_ret
      exact ⟨ret_bool (by rw [← hr'.out]; simp [len_dec]), hB2⟩

/-- A shape is valid. -/
def shapeOk (sw sh : Int) (bs : List Bool) : Bool := sidesB sw sh bs.length && bs.any (fun x => decide (true = x))

end Go.Proofs.YtbdnjhnlfpfhcaaGreat

namespace Go.Proofs.YtbdnjhnlfpfhcaaGreat
open Go Go.RowKit Go.Shelf
set_option linter.unusedVariables false
set_option linter.unusedSimpArgs false

/-- The value at a place, by natural numbers. -/
def gpx (pw : Nat) (xs : List Int) (u v : Nat) : Int := px xs ((v : Int) * pw + u)

end Go.Proofs.YtbdnjhnlfpfhcaaGreat

namespace Go.Proofs.YtbdnjhnlfpfhcaaGreat
open Go Go.RowKit Go.Shelf
set_option linter.unusedVariables false
set_option linter.unusedSimpArgs false

attribute [local go_sem] Oper.semAt_some

/-- Entry t of a shape. -/
def shIn (bs : List Bool) (t : Nat) : Bool := bs[t]?.getD false
def morU (sg : Int) (sw : Nat) (x : Int) (t : Nat) : Int := x + sg * (((t % sw : Nat) : Int) - ((sw / 2 : Nat) : Int))
def morV (sg : Int) (sw sh : Nat) (y : Int) (t : Nat) : Int := y + sg * (((t / sw : Nat) : Int) - ((sh / 2 : Nat) : Int))
/-- Entry t counts at (x, y); the value it gives. -/
def morOk (sg iw ih : Int) (sw sh : Nat) (bs : List Bool) (x y : Int) (t : Nat) : Bool := shIn bs t && (inR (morU sg sw x t) 0 (iw - 1) && inR (morV sg sw sh y t) 0 (ih - 1))
def morVal (sg iw : Int) (xs : List Int) (sw sh : Nat) (x y : Int) (t : Nat) : Int := px xs (morV sg sw sh y t * iw + morU sg sw x t)
def morSg (mx : Bool) : Int := if mx = true then -1 else 1
/-- The value of a dilated (mx) or an eroded image at a place. -/
def morG (mx : Bool) (iw ih : Int) (xs : List Int) (sw sh : Nat) (bs : List Bool) (x y : Int) : Int := morTo mx (morOk (morSg mx) iw ih sw sh bs x y) (morVal (morSg mx) iw xs sw sh x y) (sw * sh)

/-- The fold by a list of numbers. -/
def morL (mx : Bool) (ok : Nat → Bool) (val : Nat → Int) (l : List Nat) : Int :=
  l.foldl (fun b t => if ok t = true then (if mx = true then max b (val t) else min b (val t)) else b) (if mx = true then -2147483648 else 2147483648)
theorem morL_snoc (mx : Bool) (ok : Nat → Bool) (val : Nat → Int) (l : List Nat) (t : Nat) : morL mx ok val (l ++ [t]) = if ok t = true then (if mx = true then max (morL mx ok val l) (val t) else min (morL mx ok val l) (val t)) else morL mx ok val l := by
  unfold morL; rw [List.foldl_append]; rfl
theorem morL_range (mx : Bool) (ok : Nat → Bool) (val : Nat → Int) (n : Nat) : morL mx ok val (List.range n) = morTo mx ok val n := by
  induction n with
  | zero => rfl
  | succ n ih => rw [List.range_succ, morL_snoc, ih]; rfl

set_option maxRecDepth 100000 in
set_option maxHeartbeats 8000000 in
theorem Morph1_any (mx : Bool) (iw ih : Int) (a : Option Addr) (c n : Nat) (xs : List Int) (hn : Hid (xs.length = n)) (hall : Hid (allIn (-2147483648) 2147483648 xs = true)) (sw sh : Nat) (as' : Option Addr) (cs ns : Nat) (bits : List Bool) (hbn : Hid (bits.length = ns)) (hsw : sw = 1 ∨ sw = 3 ∨ sw = 5) (hsh : sh = 1 ∨ sh = 3 ∨ sh = 5) (hns : Hid (sw * sh = ns))
    (fo : Nat) (eg : ∀ args w, (callFunc fo args).run Tryz.prog w = .ok (.enter fo args) w) (hfo : ∀ (u v : Int) (w : World), Calls Tryz.prog fo #[.int .i64 u, .int .i64 v] w fun e w' => e = .returned (.int .i64 (if mx = true then max u v else min u v)) ∧ w = w')
    (x y : Int) (bst bs bsg bm bf : Nat) (W0 : World) (hi1 : 1 ≤ iw) (hi2 : iw ≤ 16) (hi3 : 1 ≤ ih) (hi4 : ih ≤ 16) (hnn : Hid ((n : Int) = iw * ih)) (hx1 : 0 ≤ x) (hx2 : x ≤ iw - 1) (hy1 : 0 ≤ y) (hy2 : y ≤ ih - 1)
    (kst : Blk W0 bst 3 #[.int .i64 (if mx = true then -2147483648 else 2147483648)]) (ks : Blk W0 bs 96 #[.int .i64 sw, .int .i64 sh, .slice as' ns cs]) (ksg : Blk W0 bsg 3 #[.int .i64 (morSg mx)]) (km : Blk W0 bm 51 #[.int .i64 iw, .int .i64 ih, .slice a n c]) (kf : Blk W0 bf 136 #[.func (.func fo) #[] #[]]) (hr : Rd W0.heap.size W0 a xs) (hrb : RdB W0.heap.size W0 as' bits) :
    Calls Tryz.prog 92 (#[.int .i64 x, .int .i64 y] ++ #[.pointer (some ⟨bst, 0, none⟩), .pointer (some ⟨bs, 0, none⟩), .pointer (some ⟨bsg, 0, none⟩), .pointer (some ⟨bm, 0, none⟩), .pointer (some ⟨bf, 0, none⟩)]) W0 fun e W' => e = .returned (.int .i64 (morG mx iw ih xs sw sh bits x y)) ∧ Below W0.heap.size W0 W' := by
  have hnsP : 1 ≤ ns ∧ ns ≤ 25 := by
    have := hns.out
    rcases hsw with rfl | rfl | rfl <;> rcases hsh with rfl | rfl | rfl <;> omega
  obtain ⟨bb, ob, rfl, hbb, hbc⟩ := rdB_at hrb hbn.out (by omega)
  have hbcH := Lib.hid hbc
  clear hbc hrb
  obtain ⟨hw, ehw⟩ : ∃ v, (sw : Int).tdiv 2 = v := ⟨_, rfl⟩
  obtain ⟨hh, ehh⟩ : ∃ v, (sh : Int).tdiv 2 = v := ⟨_, rfl⟩
  have hw1 : ((sw / 2 : Nat) : Int) = hw ∧ 0 ≤ hw ∧ hw ≤ 2 := by rw [← ehw]; rcases hsw with rfl | rfl | rfl <;> decide
  have hh1 : ((sh / 2 : Nat) : Int) = hh ∧ 0 ≤ hh ∧ hh ≤ 2 := by rw [← ehh]; rcases hsh with rfl | rfl | rfl <;> decide
  obtain ⟨hwe, hw2, hw3⟩ := hw1
  obtain ⟨hhe, hh2, hh3⟩ := hh1
  have hweH := Lib.hid hwe
  have hheH := Lib.hid hhe
  clear hwe hhe
  obtain ⟨sg, hsg⟩ : ∃ v, morSg mx = v := ⟨_, rfl⟩
  have hsg1 : sg = -1 ∨ sg = 1 := by rw [← hsg]; unfold morSg; split <;> simp
  obtain ⟨st, hst⟩ : ∃ v : Int, (if mx = true then (-2147483648 : Int) else 2147483648) = v := ⟨_, rfl⟩
  rw [hsg] at ksg
  rw [hst] at kst
  obtain ⟨OK, hOK⟩ : ∃ f, morOk sg iw ih sw sh bits x y = f := ⟨_, rfl⟩
  obtain ⟨VAL, hVAL⟩ : ∃ f, morVal sg iw xs sw sh x y = f := ⟨_, rfl⟩
  have hG := Lib.hid (show morG mx iw ih xs sw sh bits x y = morTo mx OK VAL (sw * sh) by unfold morG; rw [hsg, hOK, hVAL])
  have hst0 := Lib.hid (show st = morL mx OK VAL [] by rw [← hst]; rfl)
  have hOKH := Lib.hid hOK
  have hVALH := Lib.hid hVAL
  clear hsg hst hOK hVAL
  refine (callsIn_wide (n := 10)).1 ?_
  refine callsIn_of_wp_marks Tryz.func92 rfl trivial ?_
  simp only [Tryz.ntmps92, List.size_toArray, List.length_cons, List.length_nil, Nat.reduceAdd, Nat.reduceSub, Array.replicate_succ, Array.replicate_zero, List.push_toArray, List.append_toArray, List.nil_append, List.cons_append]
  obtain ⟨B0, hB0⟩ : ∃ B, W0.heap.size = B := ⟨_, rfl⟩
  have d0 := ((kst.alloc (.cells #[.int .i64 x] 3)).alloc (.cells #[.int .i64 y] 3)).cell (i := 0) rfl
  have e0 := (((ks.alloc (.cells #[.int .i64 x] 3)).alloc (.cells #[.int .i64 y] 3)).alloc (.cells #[.int .i64 st] 3)).cell (i := 0) rfl
  have e1' := (((ks.alloc (.cells #[.int .i64 x] 3)).alloc (.cells #[.int .i64 y] 3)).alloc (.cells #[.int .i64 st] 3)).cell (i := 1) rfl
  gi_wp2_with fail
  clear d0 e0 e1'
  refine ⟨trivial, (callsIn_wide.2 (places_any _ _ _)).mono ?_⟩
  rintro e w' ⟨rfl, rfl⟩
  gi_wp2_with fail
  have kx := ((((Blk.new W0 3 #[.int .i64 x]).alloc (.cells #[.int .i64 y] 3)).alloc (.cells #[.int .i64 st] 3)).alloc (.cells #[.int .i64 sw] 3)).alloc (.cells #[.int .i64 sh] 3)
  have ky := (((Blk.new (W0.alloc (.cells #[.int .i64 x] 3)) 3 #[.int .i64 y]).alloc (.cells #[.int .i64 st] 3)).alloc (.cells #[.int .i64 sw] 3)).alloc (.cells #[.int .i64 sh] 3)
  have ko := ((Blk.new ((W0.alloc (.cells #[.int .i64 x] 3)).alloc (.cells #[.int .i64 y] 3)) 3 #[.int .i64 st]).alloc (.cells #[.int .i64 sw] 3)).alloc (.cells #[.int .i64 sh] 3)
  have kpw := (Blk.new (((W0.alloc (.cells #[.int .i64 x] 3)).alloc (.cells #[.int .i64 y] 3)).alloc (.cells #[.int .i64 st] 3)) 3 #[.int .i64 sw]).alloc (.cells #[.int .i64 sh] 3)
  have kph := Blk.new ((((W0.alloc (.cells #[.int .i64 x] 3)).alloc (.cells #[.int .i64 y] 3)).alloc (.cells #[.int .i64 st] 3)).alloc (.cells #[.int .i64 sw] 3)) 3 #[.int .i64 sh]
  have hbw := below_al (below_al (below_al (below_al (below_al (Below.refl _ W0) (.cells #[.int .i64 x] 3)) (.cells #[.int .i64 y] 3)) (.cells #[.int .i64 st] 3)) (.cells #[.int .i64 sw] 3)) (.cells #[.int .i64 sh] 3)
  have hsz : (((((W0.alloc (.cells #[.int .i64 x] 3)).alloc (.cells #[.int .i64 y] 3)).alloc (.cells #[.int .i64 st] 3)).alloc (.cells #[.int .i64 sw] 3)).alloc (.cells #[.int .i64 sh] 3)).heap.size = W0.heap.size + 1 + 1 + 1 + 1 + 1 := by simp
  simp only [World.size_alloc] at ky ko kpw kph
  obtain ⟨V0, hV0⟩ : ∃ V, ((((W0.alloc (.cells #[.int .i64 x] 3)).alloc (.cells #[.int .i64 y] 3)).alloc (.cells #[.int .i64 st] 3)).alloc (.cells #[.int .i64 sw] 3)).alloc (.cells #[.int .i64 sh] 3) = V := ⟨_, rfl⟩
  rw [hV0] at kx ky ko kpw kph hbw hsz ⊢
  clear hV0
  have lst := kst.lt
  have ls := ks.lt
  have lsg := ksg.lt
  have lm := km.lt
  have lf := kf.lt
  rw [hB0] at lst ls lsg lm lf kx ky ko kpw kph hbw hsz hbb hr
  refine wpIn_rangeFunc_ownG (n := 10) rfl (by omega) (gf := 111) (lb := #[.pointer (some ⟨B0 + 1 + 1 + 1 + 1, 0, none⟩), .pointer (some ⟨B0 + 1 + 1 + 1, 0, none⟩)]) rfl trivial (enters_of Tryz.func111 (by kernel_rfl) rfl)
    (Kp := fun A B => B.heap[B0 + 1 + 1 + 1]? = A.heap[B0 + 1 + 1 + 1]?)
    (places_stopsK Fence.wide 9 trivial rfl (by omega) (B0 + 1 + 1 + 1 + 1) (B0 + 1 + 1 + 1) sw sh (by omega) (by omega) V0 (by omega) (by omega) (kph.cell rfl) (kpw.cell rfl)) (fun h k => k.trans h) (fun W l o o' hl _ _ _ => World.putObj_heap_other (by omega)) (Below.refl _ _) (fun _ => rfl)
    (fun pre W => ((Blk W B0 3 #[.int .i64 x] ∧ Blk W (B0 + 1) 3 #[.int .i64 y]) ∧ (Blk W (B0 + 2) 3 #[.int .i64 (morL mx OK VAL (pre.map Fin.val))] ∧ B0 + 5 ≤ W.heap.size)) ∧ Below B0 W0 W)
    (fun _ _ _ => False)
    (OwnFrom.and (fun s A B row hs hg hr => ⟨⟨blk_keeps hs.1.1 hg (fun r e => (hr r e).2), blk_keeps hs.1.2 hg (fun r e => (hr r e).2)⟩, blk_keeps hs.2.1 hg (fun r e => (hr r e).2), Nat.le_trans hs.2.2 hg.size⟩) (ownFrom_below (by omega) (by omega)))
    (fun _ _ _ _ _ hs _ _ => hs)
    ⟨⟨⟨kx, ky⟩, by rw [List.map_nil, ← hst0.out]; exact ko, by omega⟩, hbw⟩
    ?act
    ?assign ?body ?done ?stop
  case assign =>
    intro l u W K hK
    simp only [enc2]
    gi_wp2
    exact hK
  case body =>
    rintro l pre ⟨i, hi'⟩ W ⟨⟨⟨kx, ky⟩, ko, hs1⟩, hB1⟩ hlt
    have hp0 : 0 < sw := by omega
    have hx : i % sw < sw := Nat.mod_lt _ hp0
    have hy : i / sw < sh := Nat.div_lt_of_lt_mul hi'
    have hsp := idx_split sw i
    have hsn := Lib.hid (morL_snoc mx OK VAL (pre.map Fin.val) i)
    have hpre : (pre ++ [(⟨i, hi'⟩ : Fin (sw * sh))]).map Fin.val = pre.map Fin.val ++ [i] := by simp
    have hpreH := Lib.hid hpre
    clear hpre
    have ecX : cX sw i = ((i % sw : Nat) : Int) := rfl
    have ecY : cY sw i = ((i / sw : Nat) : Int) := rfl
    dsimp only
    rw [ecX, ecY]
    have hin : i < ns := by rw [← hns.out]; exact hi'
    have hokE : OK i = (shIn bits i && (inR (x + sg * (((i % sw : Nat) : Int) - hw)) 0 (iw - 1) && inR (y + sg * (((i / sw : Nat) : Int) - hh)) 0 (ih - 1))) := by rw [← hOKH.out]; unfold morOk morU morV; rw [hweH.out, hheH.out]
    have hvalE : VAL i = px xs ((y + sg * (((i / sw : Nat) : Int) - hh)) * iw + (x + sg * (((i % sw : Nat) : Int) - hw))) := by rw [← hVALH.out]; unfold morVal morU morV; rw [hweH.out, hheH.out]
    have hbit := hbcH.out i hin
    rw [show bits[i]?.getD false = shIn bits i from rfl] at hbit
    obtain ⟨X, hX⟩ : ∃ X, i % sw = X := ⟨_, rfl⟩
    obtain ⟨Y, hY⟩ : ∃ Y, i / sw = Y := ⟨_, rfl⟩
    rw [hX] at hx hsp hokE hvalE ⊢
    rw [hY] at hy hsp hokE hvalE ⊢
    clear hX hY ecX ecY
    obtain ⟨β, hβ⟩ : ∃ β, shIn bits i = β := ⟨_, rfl⟩
    rw [hβ] at hbit hokE
    have p1 : -8 ≤ sg * ((X : Int) - hw) ∧ sg * ((X : Int) - hw) ≤ 8 := by rcases hsg1 with h | h <;> rw [h] <;> omega
    have p2 : -8 ≤ sg * ((Y : Int) - hh) ∧ sg * ((Y : Int) - hh) ≤ 8 := by rcases hsg1 with h | h <;> rw [h] <;> omega
    have p3 : ((Y : Int) * (sw : Int) + (X : Int)) < (ns : Int) := by
      have e : ((Y * sw + X : Nat) : Int) = (Y : Int) * (sw : Int) + (X : Int) := by simp
      omega
    have p4 : 0 ≤ (Y : Int) * (sw : Int) := Int.mul_nonneg (by omega) (by omega)
    obtain ⟨ov, hov⟩ : ∃ v, morL mx OK VAL (pre.map Fin.val) = v := ⟨_, rfl⟩
    rw [hov] at ko
    have hsn2 : morL mx OK VAL (pre.map Fin.val ++ [i]) = if OK i = true then (if mx = true then max ov (VAL i) else min ov (VAL i)) else ov := by rw [hsn.out, hov]
    have hokH := Lib.hid hokE
    have hvalH := Lib.hid hvalE
    have hsn2H := Lib.hid hsn2
    clear hokE hvalE hsn2 hβ hov hsn
    gi_wp2_with fail
    have hS : Below W.heap.size W W.drew := (Below.refl _ _).drew
    refine round_region (fun W' => Below W.heap.size W W') 20 20 l _ (by kernel_rfl) (by kernel_rfl) (fun ⟨_, _, h⟩ => h) rfl ?_
    simp only [Array.replicate_succ, Array.replicate_zero, List.push_toArray, List.nil_append, List.cons_append]
    refine take_op 0 (v := ?rv0) rfl (by kernel_rfl) (fun _ _ _ h => h) (by rfl) hS (fun w' hS' => ?ry0) ?rz0
    case ry0 =>
      have a0 := (ks.below (hB1.trans (hS'.mono (by omega))) (by omega)).cell (i := 0) rfl
      have a1 := (ks.below (hB1.trans (hS'.mono (by omega))) (by omega)).cell (i := 1) rfl
      have b0 := (ksg.below (hB1.trans (hS'.mono (by omega))) (by omega)).cell (i := 0) rfl
      have c0 := (kx.below hS' kx.lt).cell (i := 0) rfl
      have d0 := (ky.below hS' ky.lt).cell (i := 0) rfl
      go_simp
      rfl
    simp only [List.setIfInBounds_toArray, List.set_cons_zero, List.set_cons_succ]
    refine take_op 1 (v := ?rv1) rfl (by kernel_rfl) (fun _ _ _ h => h) (by rfl) hS (fun w' hS' => ?ry1) ?rz1
    case ry1 =>
      have a0 := (ks.below (hB1.trans (hS'.mono (by omega))) (by omega)).cell (i := 0) rfl
      have a1 := (ks.below (hB1.trans (hS'.mono (by omega))) (by omega)).cell (i := 1) rfl
      have b0 := (ksg.below (hB1.trans (hS'.mono (by omega))) (by omega)).cell (i := 0) rfl
      have c0 := (kx.below hS' kx.lt).cell (i := 0) rfl
      have d0 := (ky.below hS' ky.lt).cell (i := 0) rfl
      go_simp
      rfl
    simp only [List.setIfInBounds_toArray, List.set_cons_zero, List.set_cons_succ]
    refine take_op 2 (v := ?rv2) rfl (by kernel_rfl) (fun _ _ _ h => h) (by rfl) hS (fun w' hS' => ?ry2) ?rz2
    case ry2 =>
      go_simp
      rfl
    simp only [List.setIfInBounds_toArray, List.set_cons_zero, List.set_cons_succ]
    refine take_op 3 (v := ?rv3) rfl (by kernel_rfl) (fun _ _ _ h => h) (by rfl) hS (fun w' hS' => ?ry3) ?rz3
    case ry3 =>
      go_simp
      rfl
    simp only [List.setIfInBounds_toArray, List.set_cons_zero, List.set_cons_succ]
    refine take_op 4 (v := ?rv4) rfl (by kernel_rfl) (fun _ _ _ h => h) (by rfl) hS (fun w' hS' => ?ry4) ?rz4
    case ry4 =>
      have a0 := (ks.below (hB1.trans (hS'.mono (by omega))) (by omega)).cell (i := 0) rfl
      have a1 := (ks.below (hB1.trans (hS'.mono (by omega))) (by omega)).cell (i := 1) rfl
      have b0 := (ksg.below (hB1.trans (hS'.mono (by omega))) (by omega)).cell (i := 0) rfl
      have c0 := (kx.below hS' kx.lt).cell (i := 0) rfl
      have d0 := (ky.below hS' ky.lt).cell (i := 0) rfl
      go_simp
      rfl
    simp only [List.setIfInBounds_toArray, List.set_cons_zero, List.set_cons_succ]
    refine take_op 5 (v := ?rv5) rfl (by kernel_rfl) (fun _ _ _ h => h) (by rfl) hS (fun w' hS' => ?ry5) ?rz5
    case ry5 =>
      go_simp
      try go_ints
      rfl
    simp only [List.setIfInBounds_toArray, List.set_cons_zero, List.set_cons_succ]
    refine take_op 6 (v := ?rv6) rfl (by kernel_rfl) (fun _ _ _ h => h) (by rfl) hS (fun w' hS' => ?ry6) ?rz6
    case ry6 =>
      go_simp
      try go_ints
      rfl
    simp only [List.setIfInBounds_toArray, List.set_cons_zero, List.set_cons_succ]
    refine take_op 7 (v := ?rv7) rfl (by kernel_rfl) (fun _ _ _ h => h) (by rfl) hS (fun w' hS' => ?ry7) ?rz7
    case ry7 =>
      go_simp
      try go_ints
      rfl
    simp only [List.setIfInBounds_toArray, List.set_cons_zero, List.set_cons_succ]
    refine take_op 8 (v := ?rv8) rfl (by kernel_rfl) (fun _ _ _ h => h) (by rfl) hS (fun w' hS' => ?ry8) ?rz8
    case ry8 =>
      go_simp
      try go_ints
      rfl
    simp only [List.setIfInBounds_toArray, List.set_cons_zero, List.set_cons_succ]
    refine take_op 9 (v := ?rv9) rfl (by kernel_rfl) (fun _ _ _ h => h) (by rfl) hS (fun w' hS' => ?ry9) ?rz9
    case ry9 =>
      have a0 := (ks.below (hB1.trans (hS'.mono (by omega))) (by omega)).cell (i := 0) rfl
      have a1 := (ks.below (hB1.trans (hS'.mono (by omega))) (by omega)).cell (i := 1) rfl
      have b0 := (ksg.below (hB1.trans (hS'.mono (by omega))) (by omega)).cell (i := 0) rfl
      have c0 := (kx.below hS' kx.lt).cell (i := 0) rfl
      have d0 := (ky.below hS' ky.lt).cell (i := 0) rfl
      go_simp
      rfl
    simp only [List.setIfInBounds_toArray, List.set_cons_zero, List.set_cons_succ]
    refine take_op 10 (v := ?rv10) rfl (by kernel_rfl) (fun _ _ _ h => h) (by rfl) hS (fun w' hS' => ?ry10) ?rz10
    case ry10 =>
      have a0 := (ks.below (hB1.trans (hS'.mono (by omega))) (by omega)).cell (i := 0) rfl
      have a1 := (ks.below (hB1.trans (hS'.mono (by omega))) (by omega)).cell (i := 1) rfl
      have b0 := (ksg.below (hB1.trans (hS'.mono (by omega))) (by omega)).cell (i := 0) rfl
      have c0 := (kx.below hS' kx.lt).cell (i := 0) rfl
      have d0 := (ky.below hS' ky.lt).cell (i := 0) rfl
      go_simp
      rfl
    simp only [List.setIfInBounds_toArray, List.set_cons_zero, List.set_cons_succ]
    refine take_op 11 (v := ?rv11) rfl (by kernel_rfl) (fun _ _ _ h => h) (by rfl) hS (fun w' hS' => ?ry11) ?rz11
    case ry11 =>
      go_simp
      rfl
    simp only [List.setIfInBounds_toArray, List.set_cons_zero, List.set_cons_succ]
    refine take_op 12 (v := ?rv12) rfl (by kernel_rfl) (fun _ _ _ h => h) (by rfl) hS (fun w' hS' => ?ry12) ?rz12
    case ry12 =>
      go_simp
      rfl
    simp only [List.setIfInBounds_toArray, List.set_cons_zero, List.set_cons_succ]
    refine take_op 13 (v := ?rv13) rfl (by kernel_rfl) (fun _ _ _ h => h) (by rfl) hS (fun w' hS' => ?ry13) ?rz13
    case ry13 =>
      have a0 := (ks.below (hB1.trans (hS'.mono (by omega))) (by omega)).cell (i := 0) rfl
      have a1 := (ks.below (hB1.trans (hS'.mono (by omega))) (by omega)).cell (i := 1) rfl
      have b0 := (ksg.below (hB1.trans (hS'.mono (by omega))) (by omega)).cell (i := 0) rfl
      have c0 := (kx.below hS' kx.lt).cell (i := 0) rfl
      have d0 := (ky.below hS' ky.lt).cell (i := 0) rfl
      go_simp
      rfl
    simp only [List.setIfInBounds_toArray, List.set_cons_zero, List.set_cons_succ]
    refine take_op 14 (v := ?rv14) rfl (by kernel_rfl) (fun _ _ _ h => h) (by rfl) hS (fun w' hS' => ?ry14) ?rz14
    case ry14 =>
      go_simp
      try go_ints
      rfl
    simp only [List.setIfInBounds_toArray, List.set_cons_zero, List.set_cons_succ]
    refine take_op 15 (v := ?rv15) rfl (by kernel_rfl) (fun _ _ _ h => h) (by rfl) hS (fun w' hS' => ?ry15) ?rz15
    case ry15 =>
      go_simp
      try go_ints
      rfl
    simp only [List.setIfInBounds_toArray, List.set_cons_zero, List.set_cons_succ]
    refine take_op 16 (v := ?rv16) rfl (by kernel_rfl) (fun _ _ _ h => h) (by rfl) hS (fun w' hS' => ?ry16) ?rz16
    case ry16 =>
      go_simp
      try go_ints
      rfl
    simp only [List.setIfInBounds_toArray, List.set_cons_zero, List.set_cons_succ]
    refine take_op 17 (v := ?rv17) rfl (by kernel_rfl) (fun _ _ _ h => h) (by rfl) hS (fun w' hS' => ?ry17) ?rz17
    case ry17 =>
      go_simp
      try go_ints
      rfl
    simp only [List.setIfInBounds_toArray, List.set_cons_zero, List.set_cons_succ]
    refine take_op 18 (v := ?rv18) rfl (by kernel_rfl) (fun _ _ _ h => h) (by rfl) hS (fun w' hS' => ?ry18) ?rz18
    case ry18 =>
      go_simp
      rfl
    simp only [List.setIfInBounds_toArray, List.set_cons_zero, List.set_cons_succ]
    refine take_op 19 (v := ?rv19) rfl (by kernel_rfl) (fun _ _ _ h => h) (by rfl) hS (fun w' hS' => ?ry19) ?rz19
    case ry19 =>
      go_simp
      rfl
    simp only [List.setIfInBounds_toArray, List.set_cons_zero, List.set_cons_succ]
    refine done_ops (by kernel_rfl) ?_
    have hBV : Below B0 W0 W.drew := hB1.trans (hS.mono (by omega))
    have k1x := kx.below hS kx.lt
    have k1y := ky.below hS ky.lt
    have k1o := ko.below hS ko.lt
    have k1s := ks.below hBV (by omega)
    have k1m := km.below hBV (by omega)
    have k1f := kf.below hBV (by omega)
    have hbit1 := (hBV.cell (p := ⟨bb, ob + i, none⟩) hbb).trans hbit
    have hsV : B0 + 5 ≤ W.drew.heap.size := Nat.le_trans hs1 hS.size
    obtain ⟨V, hV⟩ : ∃ V, W.drew = V := ⟨_, rfl⟩
    rw [hV] at hS hBV k1x k1y k1o k1s k1m k1f hbit1 hsV ⊢
    clear hV
    have a0 := k1s.cell (i := 0) rfl
    have a1 := k1s.cell (i := 1) rfl
    have a2 := k1s.cell (i := 2) rfl
    have b0 := k1m.cell (i := 0) rfl
    have b1 := k1m.cell (i := 1) rfl
    have b2 := k1m.cell (i := 2) rfl
    cases β with
    | false =>
      have hno := Lib.hid (show morL mx OK VAL (pre.map Fin.val ++ [i]) = ov by rw [hsn2H.out, hokH.out]; rfl)
      gi_wp2_with fail
      refine ⟨trivial, ?_⟩
      gi_wp2_with fail
      exact ⟨(others_of_below hS).from _, hS.block _ (by omega), ⟨⟨k1x, k1y⟩, by rw [hpreH.out, hno.out]; exact k1o, hsV⟩, hBV⟩
    | true =>
      gi_wp2_with fail
      refine ⟨trivial, (CallsIn.inRound l (callsIn_wide.2 (inside_any iw ih (x + sg * ((X : Int) - hw)) (y + sg * ((Y : Int) - hh)) (.slice a n c) V (by omega) (by omega) (by omega) (by omega) ⟨_, _, _, rfl⟩))).mono ?_⟩
      rintro e V1 ⟨rfl, hb1⟩
      obtain ⟨γ, hγ⟩ : ∃ γ, (inR (x + sg * ((X : Int) - hw)) 0 (iw - 1) && inR (y + sg * ((Y : Int) - hh)) 0 (ih - 1)) = γ := ⟨_, rfl⟩
      rw [hγ]
      have hokE := hokH.out
      rw [hγ, Bool.true_and] at hokE
      have hokH2 := Lib.hid hokE
      clear hokE a0 a1 a2 b0 b1 b2
      have hS1 : Below W.heap.size W V1 := hS.trans (hb1.mono hS.size)
      replace hBV := hBV.trans (hb1.mono (by omega))
      replace k1x := k1x.below hb1 k1x.lt
      replace k1y := k1y.below hb1 k1y.lt
      replace k1o := k1o.below hb1 k1o.lt
      replace k1m := k1m.below hb1 k1m.lt
      replace k1f := k1f.below hb1 k1f.lt
      replace hsV := Nat.le_trans hsV hb1.size
      cases γ with
      | false =>
        have hno := Lib.hid (show morL mx OK VAL (pre.map Fin.val ++ [i]) = ov by rw [hsn2H.out, hokH2.out]; rfl)
        gi_wp2_with fail
        exact ⟨(others_of_below hS1).from _, hS1.block _ (by omega), ⟨⟨k1x, k1y⟩, by rw [hpreH.out, hno.out]; exact k1o, hsV⟩, hBV⟩
      | true =>
        have hyes := Lib.hid (show morL mx OK VAL (pre.map Fin.val ++ [i]) = (if mx = true then max ov (VAL i) else min ov (VAL i)) by rw [hsn2H.out, hokH2.out]; rfl)
        simp only [Bool.and_eq_true, inR_true] at hγ
        obtain ⟨⟨g1, g2⟩, g3, g4⟩ := hγ
        obtain ⟨q1, q2, q3, q4⟩ := in_idx (iw := iw) (ih := ih) (u := x + sg * ((X : Int) - hw)) (v := y + sg * ((Y : Int) - hh)) hi1 hnn.out g1 g2 g3 g4
        have hn9 : n ≤ 256 := by
          have := hnn.out
          obtain ⟨m1, m2⟩ := mul_small (a := iw) (b := ih) (m := 16) (n := 16) (by omega) (by omega) (by omega) (by omega)
          omega
        obtain ⟨pv, hpv⟩ : ∃ v, VAL i = v := ⟨_, rfl⟩
        have hpvH := Lib.hid (hvalH.out.symm.trans hpv)
        obtain ⟨nv, hnv⟩ : ∃ v, (if mx = true then max ov pv else min ov pv) = v := ⟨_, rfl⟩
        have hnvH := Lib.hid hnv
        have hyes2 := Lib.hid (show morL mx OK VAL (pre.map Fin.val ++ [i]) = nv by rw [hyes.out, hpv, hnv])
        clear hpv hnv hyes
        have hS : Below V1.heap.size V1 V1.drew := (Below.refl _ _).drew
        gi_wp2_with fail
        refine round_region (fun W' => Below V1.heap.size V1 W') 7 8 l _ (by kernel_rfl) (by kernel_rfl) (fun ⟨_, _, h⟩ => h) rfl ?_
        simp only [Array.replicate_succ, Array.replicate_zero, List.push_toArray, List.nil_append, List.cons_append]
        refine take_op 0 (v := ?sv0) rfl (by kernel_rfl) (fun _ _ _ h => h) (by rfl) hS (fun w' hS' => ?sy0) ?sz0
        case sy0 =>
          have a0 := (k1m.below hS' k1m.lt).cell (i := 0) rfl
          have a1 := (k1m.below hS' k1m.lt).cell (i := 1) rfl
          have a2 := (k1m.below hS' k1m.lt).cell (i := 2) rfl
          have b0 := (k1f.below hS' k1f.lt).cell (i := 0) rfl
          have c0 := (k1o.below hS' k1o.lt).cell (i := 0) rfl
          go_simp
          rfl
        simp only [List.setIfInBounds_toArray, List.set_cons_zero, List.set_cons_succ]
        refine take_op 1 (v := ?sv1) rfl (by kernel_rfl) (fun _ _ _ h => h) (by rfl) hS (fun w' hS' => ?sy1) ?sz1
        case sy1 =>
          have a0 := (k1m.below hS' k1m.lt).cell (i := 0) rfl
          have a1 := (k1m.below hS' k1m.lt).cell (i := 1) rfl
          have a2 := (k1m.below hS' k1m.lt).cell (i := 2) rfl
          have b0 := (k1f.below hS' k1f.lt).cell (i := 0) rfl
          have c0 := (k1o.below hS' k1o.lt).cell (i := 0) rfl
          go_simp
          rfl
        simp only [List.setIfInBounds_toArray, List.set_cons_zero, List.set_cons_succ]
        refine take_op 2 (v := ?sv2) rfl (by kernel_rfl) (fun _ _ _ h => h) (by rfl) hS (fun w' hS' => ?sy2) ?sz2
        case sy2 =>
          have a0 := (k1m.below hS' k1m.lt).cell (i := 0) rfl
          have a1 := (k1m.below hS' k1m.lt).cell (i := 1) rfl
          have a2 := (k1m.below hS' k1m.lt).cell (i := 2) rfl
          have b0 := (k1f.below hS' k1f.lt).cell (i := 0) rfl
          have c0 := (k1o.below hS' k1o.lt).cell (i := 0) rfl
          go_simp
          rfl
        simp only [List.setIfInBounds_toArray, List.set_cons_zero, List.set_cons_succ]
        refine take_op 3 (v := ?sv3) rfl (by kernel_rfl) (fun _ _ _ h => h) (by rfl) hS (fun w' hS' => ?sy3) ?sz3
        case sy3 =>
          go_simp
          rfl
        simp only [List.setIfInBounds_toArray, List.set_cons_zero, List.set_cons_succ]
        refine take_op 4 (v := ?sv4) rfl (by kernel_rfl) (fun _ _ _ h => h) (by rfl) hS (fun w' hS' => ?sy4) ?sz4
        case sy4 =>
          go_simp
          rfl
        simp only [List.setIfInBounds_toArray, List.set_cons_zero, List.set_cons_succ]
        refine step_op 5 (by kernel_rfl) rfl (fun K hK => ?_)
        rw [if_pos (by rfl)]
        go_simp
        refine (at_any iw ih _ _ a c xs n hn _ (Int.le_trans (by decide) q1) (Int.le_trans (Int.le_of_lt q4) (by omega)) q2 q3 (by omega) ((hr.below (by omega) (hBV.trans (hS.mono (by omega)))).mono (by have := hS.size; omega))).mono ?_
        rintro e W2 ⟨rfl, hb2⟩
        rw [hpvH.out]
        have hS2 : Below V1.heap.size V1 W2 := hS.trans (hb2.mono hS.size)
        refine hK.out _ _ (fun h => hS2) ?_
        clear hK K
        try simp only [Act.put, List.setIfInBounds_toArray, List.set_cons_zero, List.set_cons_succ]
        refine step_op 6 (by kernel_rfl) rfl (fun K hK => ?_)
        rw [if_pos (by rfl)]
        go_simp
        refine (hfo ov pv _).mono ?_
        rintro e W3 ⟨rfl, rfl⟩
        rw [hnvH.out]
        refine hK.out _ _ (fun h => hS2) ?_
        clear hK K
        try simp only [Act.put, List.setIfInBounds_toArray, List.set_cons_zero, List.set_cons_succ]
        refine step_op 7 (by kernel_rfl) rfl (fun K hK => ?_)
        have k2o := k1o.below hS2 k1o.lt
        have c0 := k2o.cell (i := 0) rfl
        have f0 := k2o.frozen 0
        rw [if_pos (by rfl)]
        go_simp
        refine hK.out _ _ (fun h => absurd h (by omega)) ?_
        clear hK K
        try simp only [Act.put, List.setIfInBounds_toArray, List.set_cons_zero, List.set_cons_succ]
        refine done_ops (by kernel_rfl) ?_
        have hS3 : Below W.heap.size W W2 := hS1.trans (hS2.mono hS1.size)
        have hB3 : Below B0 W0 W2 := hBV.trans (hS2.mono (by omega))
        have hgA : W.grownBy (W2.setCell ⟨B0 + 1 + 1, 0, none⟩ (.int .i64 nv)) (some (B0 + 1 + 1)) := grown_trans (grown_of_below hS3 _) (grownBy_setCell' W2 _ _)
        exact ⟨((others_of_below hS3).trans (KeepsOthers.setCell _ _ _)).from _, hgA.block _ (by omega) (by simp), ⟨⟨kx.kept hgA (by simp <;> omega), ky.kept hgA (by simp <;> omega)⟩, by rw [hpreH.out, hyes2.out]; exact k2o.set 0 (.int .i64 nv), Nat.le_trans hs1 hgA.size⟩, hB3.setCell (p := ⟨B0 + 1 + 1, 0, none⟩) (by simp; omega) _⟩

  case done =>
    rintro D ys W hD hys ⟨⟨⟨kx, ky⟩, ko, hs1⟩, hB1⟩ hK
    have hfin := Lib.hid (show morL mx OK VAL (ys.map Fin.val) = morG mx iw ih xs sw sh bits x y by rw [hys, morL_range, hG.out])
    rw [hfin.out] at ko
    have c0 := ko.cell (i := 0) rfl
    gi_wp2
    refine ⟨by simp, .inl ⟨_, _, rfl, run_takeDeferred hK, ?_⟩⟩
    exact ⟨_, results_tmp rfl _ _ _, rfl, by rw [hB0]; exact hB1.trans (belowK_b (w := V0) (by omega) W D _ _ (by omega) hK rfl rfl)⟩
  case stop =>
    rintro D c pre W _ _ h _
    exact h.elim

end Go.Proofs.YtbdnjhnlfpfhcaaGreat
