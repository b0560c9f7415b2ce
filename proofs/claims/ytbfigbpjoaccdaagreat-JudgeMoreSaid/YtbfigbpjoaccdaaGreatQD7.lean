/- Contracts and laws (Near, Low, Morph, ImgM, Fr, Ft, Bo, Pr, Sc, Cl). -/
import Derived.Lib.MinMax
import Derived.Maps.AppendAt
import Derived.Test.YtbfigbpjoaccdaaGreatQD6
import Derived.Test.YtbfigbpjoaccdaaGreatQD4
namespace Go.Proofs.YtbfigbpjoaccdaaGreat
set_option linter.unusedVariables false
set_option linter.unusedSimpArgs false

/-- The columns', the rows' difference of two indexes. -/
def dX (pw i k : Nat) : Nat := (((i % pw : Nat) : Int) - ((k % pw : Nat) : Int)).natAbs
def dY (pw i k : Nat) : Nat := (((i / pw : Nat) : Int) - ((k / pw : Nat) : Int)).natAbs
def l1 (pw i k : Nat) : Nat := dX pw i k + dY pw i k
/-- Two pixels are neighbours, in the sense of four or of eight. -/
def nearB (pw : Nat) (eight : Bool) (i k : Nat) : Bool := decide (l1 pw i k = 1) || (eight && (decide (dX pw i k = 1) && decide (dY pw i k = 1)))

theorem l1_self (pw i : Nat) : l1 pw i i = 0 := by simp [l1, dX, dY]
theorem l1_tri (pw i j k : Nat) : l1 pw i k ≤ l1 pw i j + l1 pw j k := by unfold l1 dX dY; omega
theorem idx_split (pw i : Nat) : i / pw * pw + i % pw = i := by rw [Nat.mul_comm]; exact Nat.div_add_mod i pw

/-! ### The least distance to a pixel with the value 0 -/

/-- The least distance to the first k pixels' zeros; the sides' sum if there are none. 'z' tells the zeros. -/
def nearTo (pw ph : Nat) (z : Nat → Bool) (i : Nat) : Nat → Int
  | 0 => (pw : Int) + ph
  | k + 1 => if z k = true then min (nearTo pw ph z i k) (l1 pw k i : Nat) else nearTo pw ph z i k

def nearest (pw ph : Nat) (z : Nat → Bool) (i : Nat) : Int := nearTo pw ph z i (pw * ph)

theorem nearTo_le {pw ph : Nat} {z : Nat → Bool} {i m k : Nat} (hk : k < m) (hz : z k = true) : nearTo pw ph z i m ≤ (l1 pw k i : Nat) := by
  induction m with
  | zero => omega
  | succ m ih =>
    unfold nearTo
    by_cases h : k = m
    · subst h; rw [if_pos hz]; omega
    · have := ih (by omega)
      split <;> omega
theorem nearTo_hi (pw ph : Nat) (z : Nat → Bool) (i m : Nat) : nearTo pw ph z i m ≤ (pw : Int) + ph := by
  induction m with
  | zero => exact Int.le_refl _
  | succ m ih => unfold nearTo; split <;> omega
theorem nearTo_cases (pw ph : Nat) (z : Nat → Bool) (i m : Nat) : nearTo pw ph z i m = (pw : Int) + ph ∨ ∃ k, k < m ∧ z k = true ∧ nearTo pw ph z i m = (l1 pw k i : Nat) := by
  induction m with
  | zero => exact .inl rfl
  | succ m ih =>
    unfold nearTo
    by_cases hz : z m = true
    · rw [if_pos hz]
      by_cases hle : nearTo pw ph z i m ≤ (l1 pw m i : Nat)
      · rw [show min (nearTo pw ph z i m) ((l1 pw m i : Nat) : Int) = nearTo pw ph z i m by omega]
        rcases ih with h | ⟨k, h1, h2, h3⟩
        · exact .inl h
        · exact .inr ⟨k, by omega, h2, h3⟩
      · rw [show min (nearTo pw ph z i m) ((l1 pw m i : Nat) : Int) = (l1 pw m i : Nat) by omega]
        exact .inr ⟨m, by omega, hz, rfl⟩
    · rw [if_neg hz]
      rcases ih with h | ⟨k, h1, h2, h3⟩
      · exact .inl h
      · exact .inr ⟨k, by omega, h2, h3⟩
theorem nearTo_pos (pw ph : Nat) (z : Nat → Bool) (i m : Nat) : 0 ≤ nearTo pw ph z i m := by
  rcases nearTo_cases pw ph z i m with h | ⟨k, _, _, h⟩ <;> omega

theorem nearest_step {pw ph : Nat} {z : Nat → Bool} {i j : Nat} (h : l1 pw i j = 1) : nearest pw ph z j ≤ nearest pw ph z i + 1 := by
  unfold nearest
  rcases nearTo_cases pw ph z i (pw * ph) with hc | ⟨k, h1, h2, h3⟩
  · have := nearTo_hi pw ph z j (pw * ph); omega
  · have h4 := nearTo_le (pw := pw) (ph := ph) (i := j) h1 h2
    have h5 := l1_tri pw k i j
    omega
theorem nearest_zero {pw ph : Nat} {z : Nat → Bool} {i : Nat} (hi : i < pw * ph) (h : z i = true) : nearest pw ph z i = 0 := by
  have h1 := nearTo_le (pw := pw) (ph := ph) (i := i) hi h
  have h2 := nearTo_pos pw ph z i (pw * ph)
  rw [l1_self] at h1
  unfold nearest
  omega

/-! ### Narrowing down -/

/-- The state of the search: distances 'f', pixels 'q' that are still to be looked at. -/
structure Narrow (pw ph : Nat) (z : Nat → Bool) (f : Nat → Int) (q : Nat → Prop) : Prop where
  sound : ∀ i, i < pw * ph → nearest pw ph z i ≤ f i
  hi : ∀ i, i < pw * ph → f i ≤ (pw : Int) + ph
  zero : ∀ i, i < pw * ph → z i = true → f i ≤ 0
  done : ∀ i, i < pw * ph → ¬ q i → ∀ j, j < pw * ph → l1 pw i j = 1 → f j ≤ f i + 1

theorem Narrow.start {pw ph : Nat} {z : Nat → Bool} (f : Nat → Int) (q : Nat → Prop) (h0 : ∀ i, i < pw * ph → f i = if z i = true then 0 else (pw : Int) + ph) (hq : ∀ i, i < pw * ph → z i = true → q i) : Narrow pw ph z f q where
  sound i hi := by
    rw [h0 i hi]
    split
    · rename_i hz; rw [nearest_zero hi hz]; exact Int.le_refl _
    · exact nearTo_hi _ _ _ _ _
  hi i hi := by rw [h0 i hi]; split <;> omega
  zero i hi hz := by rw [h0 i hi, if_pos hz]; exact Int.le_refl _
  done i hi hn j hj _ := by
    have hz : ¬ z i = true := fun h => hn (hq i hi h)
    rw [h0 i hi, h0 j hj, if_neg hz]
    split <;> omega

/-- Pixel i is being looked at; 's' are its neighbours that have been. One more: nothing turns. -/
theorem Narrow.skip {pw ph : Nat} {z : Nat → Bool} {f : Nat → Int} {q : Nat → Prop} (h : Narrow pw ph z f q) {q' : Nat → Prop} (hq : ∀ j, q j → q' j) : Narrow pw ph z f q' :=
  ⟨h.sound, h.hi, h.zero, fun i hi hn => h.done i hi fun e => hn (hq i e)⟩

/-- A neighbour k of i gets a nearer distance. -/
theorem Narrow.step {pw ph : Nat} {z : Nat → Bool} {f : Nat → Int} {q : Nat → Prop} (h : Narrow pw ph z f q) {i k : Nat} (hi : i < pw * ph) (hk : k < pw * ph) (hik : l1 pw i k = 1) (hlt : f i + 1 < f k) (f' : Nat → Int) (hf : ∀ j, j ≠ k → f' j = f j) (hfk : f' k = f i + 1) (q' : Nat → Prop) (hq : ∀ j, q j → q' j) (hqk : q' k) : Narrow pw ph z f' q' where
  sound j hj := by
    by_cases e : j = k
    · subst e; rw [hfk]; have := h.sound i hi; have := nearest_step (ph := ph) (z := z) hik; omega
    · rw [hf j e]; exact h.sound j hj
  hi j hj := by
    by_cases e : j = k
    · subst e; rw [hfk]; have := h.hi _ hj; omega
    · rw [hf j e]; exact h.hi j hj
  zero j hj hz := by
    by_cases e : j = k
    · subst e; rw [hfk]; have := h.zero _ hj hz; omega
    · rw [hf j e]; exact h.zero j hj hz
  done j hj hn l hl hjl := by
    have hjk : j ≠ k := fun e => hn (e ▸ hqk)
    have h1 := h.done j hj (fun e => hn (hq j e)) l hl hjl
    rw [hf j hjk]
    by_cases e : l = k
    · subst e; rw [hfk]; omega
    · rw [hf l e]; exact h1

/-! ### Parts: what grows from a pixel on -/

/-- Pixel k is reached from i, along neighbours whose values are not 0 and that have no number yet. -/
inductive Reach (N pw : Nat) (e : Bool) (nz : Nat → Bool) (L : Nat → Int) (i : Nat) : Nat → Prop
  | base : Reach N pw e nz L i i
  | step {k l : Nat} : Reach N pw e nz L i k → l < N → nearB pw e k l = true → nz l = true → L l = 0 → Reach N pw e nz L i l

/-- The state of the search: numbers 'f', pixels 'q' that are still to be looked at; before it the numbers were L, n is new. -/
structure Fill (N pw : Nat) (e : Bool) (nz : Nat → Bool) (L : Nat → Int) (n : Int) (i : Nat) (f : Nat → Int) (q : Nat → Prop) : Prop where
  start : f i = n
  out : ∀ k, k < N → f k = L k ∨ (f k = n ∧ L k = 0 ∧ Reach N pw e nz L i k)
  done : ∀ k, k < N → f k = n → ¬ q k → ∀ l, l < N → nearB pw e k l = true → nz l = true → f l ≠ 0

theorem Fill.skip {N pw : Nat} {e : Bool} {nz : Nat → Bool} {L : Nat → Int} {n : Int} {i : Nat} {f : Nat → Int} {q : Nat → Prop} (h : Fill N pw e nz L n i f q) {q' : Nat → Prop} (hq : ∀ j, q j → q' j) : Fill N pw e nz L n i f q' :=
  ⟨h.start, h.out, fun k hk hf hn => h.done k hk hf fun e => hn (hq k e)⟩

/-- A neighbour l of k gets the number. -/
theorem Fill.step {N pw : Nat} {e : Bool} {nz : Nat → Bool} {L : Nat → Int} {n : Int} {i : Nat} {f : Nat → Int} {q : Nat → Prop} (h : Fill N pw e nz L n i f q) (hn : ∀ k, k < N → L k ≠ n) (hn0 : n ≠ 0) {k l : Nat} (hk : k < N) (hl : l < N) (hfk : f k = n) (hkl : nearB pw e k l = true) (hz : nz l = true) (hfl : f l = 0)
    (f' : Nat → Int) (hf : ∀ j, j ≠ l → f' j = f j) (hf' : f' l = n) (q' : Nat → Prop) (hq : ∀ j, q j → q' j) (hql : q' l) : Fill N pw e nz L n i f' q' where
  start := by
    by_cases ei : i = l
    · subst ei; exact hf'
    · rw [hf i ei]; exact h.start
  out j hj := by
    by_cases ej : j = l
    · subst ej
      refine .inr ⟨hf', ?_, ?_⟩
      · rcases h.out _ hj with ho | ho
        · rw [← ho]; exact hfl
        · exact ho.2.1
      · rcases h.out _ hk with ho | ho
        · rw [ho] at hfk; exact (hn k hk hfk).elim
        · refine ho.2.2.step hj hkl hz ?_
          rcases h.out _ hj with ho2 | ho2
          · rw [← ho2]; exact hfl
          · exact ho2.2.1
    · rw [hf j ej]; exact h.out j hj
  done j hj hfj hnq m hm hjm hzm := by
    have ejl : j ≠ l := fun e => hnq (e ▸ hql)
    rw [hf j ejl] at hfj
    have := h.done j hj hfj (fun e => hnq (hq j e)) m hm hjm hzm
    by_cases em : m = l
    · subst em; rw [hf']; exact hn0
    · rw [hf m em]; exact this

/-! ### The neighbours of a pixel, by their places around it -/

end Go.Proofs.YtbfigbpjoaccdaaGreat

namespace Go.Proofs.YtbfigbpjoaccdaaGreat
set_option linter.unusedVariables false
set_option linter.unusedSimpArgs false

/-- Pixel k is lower than pixel b: by its value, then by its index. -/
def better (m : Nat → Int) (b k : Nat) : Bool := decide (m k < m b) || (decide (m k = m b) && decide (k < b))
theorem better_iff {m : Nat → Int} {b k : Nat} : better m b k = true ↔ m k < m b ∨ (m k = m b ∧ k < b) := by simp [better]
theorem better_not {m : Nat → Int} {b k : Nat} : better m b k = false ↔ ¬ (m k < m b ∨ (m k = m b ∧ k < b)) := by rw [← better_iff]; simp

/-- b is the lowest of i and those that s tells. -/
structure IsLow (m : Nat → Int) (i : Nat) (s : Nat → Prop) (b : Nat) : Prop where
  mem : b = i ∨ s b
  least : ∀ c, c = i ∨ s c → better m b c = false

theorem IsLow.unique {m : Nat → Int} {i : Nat} {s : Nat → Prop} {a b : Nat} (ha : IsLow m i s a) (hb : IsLow m i s b) : a = b := by
  have h1 := better_not.1 (ha.least b hb.mem)
  have h2 := better_not.1 (hb.least a ha.mem)
  omega
theorem IsLow.start (m : Nat → Int) (i : Nat) {s : Nat → Prop} (hs : ∀ c, ¬ s c) : IsLow m i s i :=
  ⟨.inl rfl, fun c hc => by
    rcases hc with rfl | hc
    · exact better_not.2 (by omega)
    · exact (hs c hc).elim⟩
theorem IsLow.step {m : Nat → Int} {i : Nat} {s s' : Nat → Prop} {b k : Nat} (h : IsLow m i s b) (hs : ∀ c, s' c ↔ s c ∨ c = k) : IsLow m i s' (if better m b k = true then k else b) := by
  by_cases hk : better m b k = true
  · rw [if_pos hk]
    refine ⟨.inr ((hs k).2 (.inr rfl)), fun c hc => better_not.2 ?_⟩
    have h1 := better_iff.1 hk
    have hc' : (c = i ∨ s c) ∨ c = k := by
      rcases hc with h | h
      · exact .inl (.inl h)
      · rcases (hs c).1 h with h | h
        · exact .inl (.inr h)
        · exact .inr h
    rcases hc' with h2 | h2
    · have := better_not.1 (h.least c h2)
      omega
    · subst h2; omega
  · rw [if_neg hk]
    refine ⟨h.mem.elim .inl fun e => .inr ((hs b).2 (.inl e)), fun c hc => ?_⟩
    rcases hc with h2 | h2
    · exact h.least c (.inl h2)
    · rcases (hs c).1 h2 with h2 | h2
      · exact h.least c (.inr h2)
      · subst h2; simpa using hk

/-! ### Where going on to the lowest neighbour ends -/

end Go.Proofs.YtbfigbpjoaccdaaGreat

namespace Go.Proofs.YtbfigbpjoaccdaaGreat
set_option linter.unusedVariables false
set_option linter.unusedSimpArgs false

/-- The greatest (mx) or least of the values 'val' with numbers below t that count ('ok'). -/
def morTo (mx : Bool) (ok : Nat → Bool) (val : Nat → Int) : Nat → Int
  | 0 => if mx = true then -2147483648 else 2147483648
  | t + 1 => if ok t = true then (if mx = true then max (morTo mx ok val t) (val t) else min (morTo mx ok val t) (val t)) else morTo mx ok val t

theorem mor_le {ok : Nat → Bool} {val : Nat → Int} {n : Nat} {B : Int} : morTo true ok val n ≤ B ↔ -2147483648 ≤ B ∧ ∀ t, t < n → ok t = true → val t ≤ B := by
  induction n with
  | zero =>
    simp only [morTo, if_true]
    exact ⟨fun h => ⟨h, fun t ht => by omega⟩, fun h => h.1⟩
  | succ n ih =>
    simp only [morTo, if_true]
    have key : (∀ t, t < n + 1 → ok t = true → val t ≤ B) ↔ (∀ t, t < n → ok t = true → val t ≤ B) ∧ (ok n = true → val n ≤ B) := by
      constructor
      · exact fun h => ⟨fun t ht => h t (by omega), h n (by omega)⟩
      · rintro ⟨h1, h2⟩ t ht
        by_cases e : t = n
        · subst e; exact h2
        · exact h1 t (by omega)
    rw [key]
    by_cases h : ok n = true
    · rw [if_pos h]
      constructor
      · intro hm
        have := ih.1 (by omega)
        exact ⟨this.1, this.2, fun _ => by omega⟩
      · rintro ⟨h1, h2, h3⟩
        have := ih.2 ⟨h1, h2⟩
        have := h3 h
        omega
    · rw [if_neg h, ih]
      exact ⟨fun ⟨h1, h2⟩ => ⟨h1, h2, fun h' => (h h').elim⟩, fun ⟨h1, h2, _⟩ => ⟨h1, h2⟩⟩

theorem le_mor {ok : Nat → Bool} {val : Nat → Int} {n : Nat} {B : Int} : B ≤ morTo false ok val n ↔ B ≤ 2147483648 ∧ ∀ t, t < n → ok t = true → B ≤ val t := by
  induction n with
  | zero =>
    simp only [morTo]
    exact ⟨fun h => ⟨h, fun t ht => by omega⟩, fun h => h.1⟩
  | succ n ih =>
    have e0 : morTo false ok val (n + 1) = if ok n = true then min (morTo false ok val n) (val n) else morTo false ok val n := by simp [morTo]
    rw [e0]
    have key : (∀ t, t < n + 1 → ok t = true → B ≤ val t) ↔ (∀ t, t < n → ok t = true → B ≤ val t) ∧ (ok n = true → B ≤ val n) := by
      constructor
      · exact fun h => ⟨fun t ht => h t (by omega), h n (by omega)⟩
      · rintro ⟨h1, h2⟩ t ht
        by_cases e : t = n
        · subst e; exact h2
        · exact h1 t (by omega)
    rw [key]
    by_cases h : ok n = true
    · rw [if_pos h]
      constructor
      · intro hm
        have := ih.1 (by omega)
        exact ⟨this.1, this.2, fun _ => by omega⟩
      · rintro ⟨h1, h2, h3⟩
        have := ih.2 ⟨h1, h2⟩
        have := h3 h
        omega
    · rw [if_neg h, ih]
      exact ⟨fun ⟨h1, h2⟩ => ⟨h1, h2, fun h' => (h h').elim⟩, fun ⟨h1, h2, _⟩ => ⟨h1, h2⟩⟩

theorem mor_bd {mx : Bool} {ok : Nat → Bool} {val : Nat → Int} (h : ∀ t, -2147483648 ≤ val t ∧ val t ≤ 2147483648) (n : Nat) : -2147483648 ≤ morTo mx ok val n ∧ morTo mx ok val n ≤ 2147483648 := by
  induction n with
  | zero => cases mx <;> simp [morTo]
  | succ n ih =>
    have := h n
    simp only [morTo]
    split
    · split <;> omega
    · exact ih

end Go.Proofs.YtbfigbpjoaccdaaGreat

namespace Go.Proofs.YtbfigbpjoaccdaaGreat
open Go Go.RowKit Go.Shelf
set_option linter.unusedVariables false
set_option linter.unusedSimpArgs false

/-- The value at a place, by natural numbers. -/
def gpx (pw : Nat) (xs : List Int) (u v : Nat) : Int := px xs ((v : Int) * pw + u)

end Go.Proofs.YtbfigbpjoaccdaaGreat

namespace Go.Proofs.YtbfigbpjoaccdaaGreat
open Go Go.RowKit Go.Shelf
set_option linter.unusedVariables false
set_option linter.unusedSimpArgs false

/-- The sum of a cell's rectangle, by the cell's number. -/
def cellS (gx cw ch : Nat) (g : Nat → Nat → Int) (c : Nat) : Int := rect g (c % gx * cw) (c / gx * ch) ((c % gx + 1) * cw) ((c / gx + 1) * ch)
set_option maxRecDepth 100000 in
set_option maxHeartbeats 2000000 in
/-- The letters of a valid network and an image of its size. -/
theorem net_letters {N : NetN} (h : NetOk N) {m : ImN} (hw : m.w = N.w) (hh : m.h = N.h) (hc : camB m = true) :
    ∃ pw ph gx gy cw ch : Nat, N.w = (pw : Int) ∧ N.h = (ph : Int) ∧ N.gx = (gx : Int) ∧ N.gy = (gy : Int) ∧ Cells pw ph cw ch gx gy ∧ N.nf = gx * gy ∧ (1 ≤ gx ∧ gx ≤ 4) ∧ (1 ≤ gy ∧ gy ≤ 4) ∧ (1 ≤ pw ∧ pw ≤ 16) ∧ (1 ≤ ph ∧ ph ≤ 16) ∧
      m.px.length = ph * pw ∧ allIn 0 255 m.px = true ∧ allIn (-2147483648) 2147483648 m.px = true ∧ featL N m.px = featsTo pw cw ch gx (fun i => m.px[i]?.getD 0) N.nf m.px.length ∧ featL N m.px = (List.range N.nf).map (cellS gx cw ch (gpx pw m.px)) := by
  have h1 := h.gx
  have h2 := h.gy
  have h3 := h.w
  have h4 := h.h
  simp only [camB, Bool.and_eq_true] at hc
  obtain ⟨_, _, v3, v4⟩ := vld_true hc.1
  have hlen : m.px.length = N.h.toNat * N.w.toNat := by
    rw [hw, hh, show N.w = (N.w.toNat : Int) by omega, show N.h = (N.h.toNat : Int) by omega, Int.mul_comm] at v3
    exact_mod_cast v3
  refine ⟨N.w.toNat, N.h.toNat, N.gx.toNat, N.gy.toNat, _, _, by omega, by omega, by omega, by omega, h.cells, h.nfN, by omega, by omega, by omega, by omega, hlen, hc.2, v4, rfl, ?_⟩
  refine (featL_rect h hlen (gpx N.w.toNat m.px) fun x y hx hy => ?_).trans rfl
  unfold gpx px
  congr 2
theorem features_any (N : NetN) (hN : NetOk N) (na : Option Addr) (nn nc : Nat) (m : ImN) (hw : m.w = N.w) (hh : m.h = N.h) (hc : camB m = true) (pa : Option Addr) (l pc : Nat) (hl : m.px.length = l) (w : World) (hp : Rd w.heap.size w pa m.px) :
    Calls Tryz.prog 49 #[netv N na nn nc, imv m.w m.h pa l pc] w fun e w' => ∃ s sc, e = .returned (.slice s N.nf sc) ∧
      w'.ownsRow w.heap.size 3 1 (.slice s N.nf sc) N.nf ((featL N m.px).map (Value.int .i64)) ∧ Below w.heap.size w w' := by
  obtain ⟨pw, ph, gx, gy, cw, ch, e1, e2, e3, e4, hC, hnf, g1, g2, g3, g4, hlen, hv, _, hf, _⟩ := net_letters hN hw hh hc
  obtain ⟨W, H, GX, GY, Ls, low, high⟩ := N
  obtain ⟨iw, ih, xs⟩ := m
  simp only at e1 e2 e3 e4 hw hh hlen hv hl hp
  subst e1 e2 e3 e4 hw hh
  rw [hf]
  simp only at hf ⊢
  refine (features_walk pw ph gx gy cw ch (NetN.nf ⟨(pw : Int), (ph : Int), (gx : Int), (gy : Int), Ls, low, high⟩) l hC hnf g1.1 g1.2 g2.1 g2.2 g3.1 g3.2 g4.1 g4.2 xs hl (by rw [← hl, hlen]) hv low high na pa nn nc pc w hp).mono fun e w' ⟨g, h1, h2, h3⟩ => ⟨_, _, h1, ?_, h3⟩
  rw [hl]
  exact h2
end Go.Proofs.YtbfigbpjoaccdaaGreat

namespace Go.Proofs.YtbfigbpjoaccdaaGreat
open Go Go.RowKit Go.Shelf
set_option linter.unusedVariables false
set_option linter.unusedSimpArgs false

theorem imAt_one (m : ImN) : imAt [m] 0 = m := rfl
theorem imAt_len {ms : List ImN} (h : ∀ m ∈ ms, m.px.length ≤ 9223372036854775807) (i : Nat) : (imAt ms i).px.length ≤ 9223372036854775807 := by
  unfold imAt
  cases e : ms[i]? with
  | none => simp
  | some m => exact h m (List.mem_of_getElem? e)
/-- A slice of one image in a block of its own. -/
theorem rdis_one {W : World} {b : Nat} {m : ImN} {pa : Option Addr} {l pc : Nat} (hl : m.px.length = l) (h : Blk W b 27 #[.int .i64 m.w, .int .i64 m.h, .slice pa l pc]) (hp : Rd W.heap.size W pa m.px) : RdIs W.heap.size W (some ⟨b, 0, none⟩) [m] :=
  .inr ⟨b, 0, rfl, h.lt, fun i hi => by
    have : i = 0 := by simp at hi; exact hi
    subst this
    exact ⟨pa, pc, h.cell (i := 0) rfl, h.cell (i := 1) rfl, by rw [imAt_one, hl]; exact h.cell (i := 2) rfl, hp⟩⟩
theorem chkF_zero {N : NetN} {m : ImN} (h : chkF N [m] = 0) : NetOk N ∧ m.w = N.w ∧ m.h = N.h ∧ camB m = true := by
  unfold chkF at h
  cases h1 : netOk N with
  | false => rw [h1] at h; simp at h
  | true =>
    cases h2 : camsB [m] with
    | false => rw [h1, h2] at h; simp at h
    | true =>
      cases h3 : fitsB N [m] with
      | false => rw [h1, h2, h3] at h; simp at h
      | true =>
        have h3' := of_decide_eq_true (allTo_at h3 (k := 0) (by simp))
        exact ⟨netOk_of h1, h3'.1, h3'.2, allTo_at h2 (k := 0) (by simp)⟩
end Go.Proofs.YtbfigbpjoaccdaaGreat

namespace Go.Proofs.YtbfigbpjoaccdaaGreat
open Go Go.RowKit Go.Shelf
set_option linter.unusedVariables false
set_option linter.unusedSimpArgs false

/-- The blocks of two slices are not the same. -/
def Dis (v u : Value) : Prop := ∀ b, v.ownBlock = some b → u.ownBlock ≠ some b
theorem Dis.symm {v u : Value} (h : Dis v u) : Dis u v := fun b hb hv => h b hv hb
theorem Dis.grown {v u v' : Value} {W : World} (h : Dis v u) (hv : v'.ownBlock = v.ownBlock ∨ v'.ownBlock = some W.heap.size) (hu : ∀ b, u.ownBlock = some b → b < W.heap.size) : Dis v' u := fun b hb he => by
  rcases hv with hv | hv
  · exact h b (hv ▸ hb) he
  · rw [hv] at hb
    cases hb
    exact Nat.lt_irrefl _ (hu _ he)
theorem Dis.nil (u : Value) : Dis (.slice none 0 0) u := fun b hb => by cases hb
theorem jb_al2 {a w : World} (h : Below a.heap.size a w) (o : Obj) : Below a.heap.size a (w.alloc o) := h.alloc h.size o
end Go.Proofs.YtbfigbpjoaccdaaGreat

namespace Go.Proofs.YtbfigbpjoaccdaaGreat
open Go Go.RowKit Go.Shelf
set_option linter.unusedVariables false
set_option linter.unusedSimpArgs false

def flat : List (Int × Int) → List Int
  | [] => []
  | p :: l => p.1 :: p.2 :: flat l
theorem flat_length : ∀ l : List (Int × Int), (flat l).length = 2 * l.length
  | [] => rfl
  | p :: l => by rw [flat, List.length_cons, List.length_cons, flat_length l, List.length_cons]; omega
theorem flat_lo : ∀ (l : List (Int × Int)) (i : Nat), (flat l)[i * 2]?.getD 0 = loAt l i
  | [], i => by simp [flat, loAt]
  | p :: l, 0 => rfl
  | p :: l, i + 1 => by
    rw [flat, show (i + 1) * 2 = i * 2 + 1 + 1 by omega, List.getElem?_cons_succ, List.getElem?_cons_succ, flat_lo l i]
    unfold loAt; rw [List.getElem?_cons_succ]
theorem flat_hi : ∀ (l : List (Int × Int)) (i : Nat), (flat l)[i * 2 + 1]?.getD 0 = hiAt l i
  | [], i => by simp [flat, hiAt]
  | p :: l, 0 => rfl
  | p :: l, i + 1 => by
    rw [flat, show (i + 1) * 2 + 1 = i * 2 + 1 + 1 + 1 by omega, List.getElem?_cons_succ, List.getElem?_cons_succ, flat_hi l i]
    unfold hiAt; rw [List.getElem?_cons_succ]
theorem flat_set : ∀ (l : List (Int × Int)) (i : Nat) (a b : Int), ((flat l).set (i * 2) a).set (i * 2 + 1) b = flat (l.set i (a, b))
  | [], i, a, b => rfl
  | p :: l, 0, a, b => rfl
  | p :: l, i + 1, a, b => by
    rw [flat, show (i + 1) * 2 = i * 2 + 1 + 1 by omega, List.set_cons_succ, List.set_cons_succ, List.set_cons_succ, List.set_cons_succ, flat_set l i a b, List.set_cons_succ, flat]
theorem flat_rep : ∀ n : Nat, flat (List.replicate n (0, 0)) = List.replicate (2 * n) 0
  | 0 => rfl
  | n + 1 => by rw [List.replicate_succ, flat, flat_rep n, show 2 * (n + 1) = 2 * n + 1 + 1 by omega, List.replicate_succ, List.replicate_succ]
/-- What is filled so far. -/
def layP (F : Nat → Int × Int) (n k : Nat) : List (Int × Int) := (List.range n).map fun i => if i < k then F i else (0, 0)
theorem layP_length (F : Nat → Int × Int) (n k : Nat) : (layP F n k).length = n := by simp [layP]
theorem layP_zero (F : Nat → Int × Int) (n : Nat) : layP F n 0 = List.replicate n (0, 0) := by simp [layP, List.map_const']
theorem layP_all (F : Nat → Int × Int) (n : Nat) : layP F n n = (List.range n).map F := List.map_congr_left fun i hi => if_pos (List.mem_range.1 hi)
theorem layP_set (F : Nat → Int × Int) {n k : Nat} (hk : k < n) : (layP F n k).set k (F k) = layP F n (k + 1) := by
  refine List.ext_getElem (by simp [layP]) fun i h1 h2 => ?_
  simp only [List.length_set, layP_length] at h1
  rw [List.getElem_set]
  simp only [layP, List.getElem_map, List.getElem_range]
  by_cases e : k = i
  · subst e; rw [if_pos rfl, if_pos (by omega)]
  · rw [if_neg e]
    by_cases h : i < k
    · rw [if_pos h, if_pos (by omega)]
    · rw [if_neg h, if_neg (by omega)]
/-- What a row of pairs holds can be read. -/
theorem rowP_rd {W : World} {base : Nat} {e : TypeId} {a : Option Addr} {c n : Nat} {ys : List Int} (hn : ys.length = 2 * n) (h : W.ownsRow base e 2 (.slice a n c) n (ys.map (Value.int .i64))) : Rd W.heap.size W a ys := by
  rcases h.2 with ⟨h1, h2⟩ | ⟨g, cap, cur, h1, _, hg, _⟩
  · exact .inl (List.eq_nil_of_length_eq_zero (by omega))
  · simp only [Value.slice.injEq, true_and] at h1
    obtain ⟨rfl, rfl⟩ := h1
    refine .inr ⟨g, 0, rfl, (Array.getElem?_eq_some_iff.1 hg).1, fun i hi => ?_⟩
    have := h.cellAt i (by omega)
    rw [Nat.zero_add, this]
    simp [hi]
theorem jinfo_bnd : (Tryz.prog.info? 99).map (fun i => (i.zero, i.size, i.bytes)) = some (some (.agg #[.int .i64 0, .int .i64 0]), 2, 16) := by kernel_rfl
theorem jmade_bnd (n : Nat) : (madeCells (Value.agg #[.int .i64 0, .int .i64 0]).cells (n * 2)).toList = (flat (List.replicate n (0, 0))).map (Value.int .i64) := by
  rw [flat_rep]
  refine List.ext_getElem (by simp [size_madeCells]; omega) fun i h1 h2 => ?_
  have : i % 2 = 0 ∨ i % 2 = 1 := by omega
  simp [madeCells, Value.cells]
  rcases this with h | h <;> simp [h]

/-- A pair is stored into a row of pairs. -/
theorem rowP_store {W : World} {base : Nat} {e : TypeId} {g n j : Nat} {F : Nat → Int × Int} (h : W.ownsRow base e 2 (.slice (some ⟨g, 0, none⟩) n n) n ((flat (layP F n j)).map (Value.int .i64))) (hj : j < n) {a b : Int} (hF : F j = (a, b)) :
    (∃ u, W.cell? ⟨g, j * 2, none⟩ = some (.int .i64 u)) ∧ (∃ u, W.cell? ⟨g, j * 2 + 1, none⟩ = some (.int .i64 u)) ∧ W.frozen? ⟨g, j * 2, none⟩ = false ∧ W.frozen? ⟨g, j * 2 + 1, none⟩ = false ∧
      ((W.setCell ⟨g, j * 2, none⟩ (.int .i64 a)).setCell ⟨g, j * 2 + 1, none⟩ (.int .i64 b)).ownsRow base e 2 (.slice (some ⟨g, 0, none⟩) n n) n ((flat (layP F n (j + 1))).map (Value.int .i64)) := by
  have hlen : (flat (layP F n j)).length = 2 * n := by rw [flat_length, layP_length]
  have c0 := h.cellAt (j * 2) (by omega)
  have c1 := h.cellAt (j * 2 + 1) (by omega)
  rw [List.getElem?_map, List.getElem?_eq_getElem (by omega)] at c0 c1
  refine ⟨⟨_, c0⟩, ⟨_, c1⟩, h.frozenAt _, h.frozenAt _, ?_⟩
  have s1 := (h.stored (j * 2) (.int .i64 a)).1
  have s2 := (s1.stored (j * 2 + 1) (.int .i64 b)).1
  rw [map_set_i, map_set_i, flat_set, ← hF, layP_set F hj] at s2
  exact s2

end Go.Proofs.YtbfigbpjoaccdaaGreat

namespace Go.Proofs.YtbfigbpjoaccdaaGreat
open Go Go.RowKit Go.Shelf
set_option linter.unusedVariables false
set_option linter.unusedSimpArgs false

set_option maxRecDepth 100000 in
set_option maxHeartbeats 2000000 in
theorem plus_num (a w x : Int) (h1 : -9223372036854775808 ≤ w * x) (h2 : w * x ≤ 9223372036854775807) (h3 : -9223372036854775808 ≤ a + w * x) (h4 : a + w * x ≤ 9223372036854775807) (W : World) :
    Calls Tryz.prog 183 #[.int .i64 a, .int .i64 w, .int .i64 x] W fun e w' => e = .returned (.int .i64 (a + w * x)) ∧ W = w' := by
  go_enter Tryz.func183, Tryz.ntmps183
  go_wp2
  go_ret
  exact ⟨rfl, rfl⟩
set_option maxRecDepth 100000 in
set_option maxHeartbeats 2000000 in
theorem cut_num (a : Int) (W : World) :
    Calls Tryz.prog 182 #[.int .i64 a] W fun e w' => e = .returned (.int .i64 (cutI true a)) ∧ W = w' := by
  obtain ⟨m, hm⟩ : ∃ m, max a 0 = m := ⟨_, rfl⟩
  have hc : cutI true a = m := hm
  have hcH := Lib.hid hc
  clear hc
  go_enter Tryz.func182, Tryz.ntmps182
  go_wp2
  go_ret
  exact ⟨ret_int hcH.out.symm, rfl⟩
set_option maxRecDepth 100000 in
set_option maxHeartbeats 2000000 in
theorem bias_num (a : Int) (W : World) :
    Calls Tryz.prog 53 #[.int .i64 a] W fun e w' => e = .returned (.int .i64 a) ∧ W = w' := by
  go_enter Tryz.func53, Tryz.ntmps53
  go_wp2
  go_ret
  exact ⟨rfl, rfl⟩

theorem plus_num_at (z : Int) (w : World) : (method 342 103 (.int .i64 z) "sightbench/judge.plus").run Tryz.prog w = .ok (183, .int .i64 z) w := by kernel_rfl
theorem cut_num_at (z : Int) (w : World) : (method 342 103 (.int .i64 z) "sightbench/judge.cut").run Tryz.prog w = .ok (182, .int .i64 z) w := by kernel_rfl

/-- What a row of integers holds can be read, whatever its type's number. -/
theorem rowU_rd {W : World} {base : Nat} {e : TypeId} {a : Option Addr} {c n : Nat} {xs : List Int} (hn : xs.length = n) (h : W.ownsRow base e 1 (.slice a n c) n (xs.map (Value.int .i64))) : Rd W.heap.size W a xs := by
  subst hn
  rcases h.2 with ⟨h1, h2⟩ | ⟨g, cap, cur, h1, _, hg, _⟩
  · exact .inl (List.eq_nil_of_length_eq_zero h2)
  · simp only [Value.slice.injEq, true_and] at h1
    obtain ⟨rfl, rfl⟩ := h1
    refine .inr ⟨g, 0, rfl, (Array.getElem?_eq_some_iff.1 hg).1, fun i hi => ?_⟩
    have := h.cellAt i (by omega)
    rw [Nat.zero_add, this]
    simp [hi]
theorem jinfo_num : (Tryz.prog.info? 103).map (fun i => (i.zero, i.size, i.bytes)) = some (some (.int .i64 0), 1, 8) := by kernel_rfl

set_option maxRecDepth 100000 in
set_option maxHeartbeats 8000000 in
theorem score_num (N : NetN) (hN : NetOk N) (na : Option Addr) (nn nc : Nat) (hnn : N.Ls.length = nn) (x : List Int) (hx : x.length = N.nf) (hxb : LeB 65280 x) (la : Option Addr) (lc : Nat) (w : World) (hrn : RdLs w.heap.size w na N.Ls) (hrl : Rd w.heap.size w la x) :
    Calls Tryz.prog 52 #[netv N na nn nc, .slice la N.nf lc, .func (.func 53) #[] #[]] w fun e w' => e = .returned (.int .i64 (scoreN N.Ls x)) ∧ Below w.heap.size w w' := by
  obtain ⟨i0, hi, hz0, hz1, hz2⟩ := info_parts jinfo_num
  have hpm := plus_num_at
  have hcm := cut_num_at
  have hNH := Lib.hid hN
  have hnnH := Lib.hid hnn
  have hxH := Lib.hid hx
  have hbdH := Lib.hid (fun i => numAt_bd hN hx hxb i)
  have hn3 : nn ≤ 3 := by rw [← hnn]; exact hN.l3
  have hn1 : 1 ≤ nn := by rw [← hnn]; exact hN.l1
  clear hN hnn hx hxb
  have hbW1 : Below w.heap.size w (w.alloc (.cells #[.int .i64 N.w, .int .i64 N.h, .int .i64 N.gx, .int .i64 N.gy, .slice na nn nc, .int .i64 N.low, .int .i64 N.high] 24)) := jb_al (Below.refl _ w) _
  have kn := Blk.new w 24 #[.int .i64 N.w, .int .i64 N.h, .int .i64 N.gx, .int .i64 N.gy, .slice na nn nc, .int .i64 N.low, .int .i64 N.high]
  obtain ⟨W1, hEW1⟩ : ∃ X, w.alloc (.cells #[.int .i64 N.w, .int .i64 N.h, .int .i64 N.gx, .int .i64 N.gy, .slice na nn nc, .int .i64 N.low, .int .i64 N.high] 24) = X := ⟨_, rfl⟩
  rw [hEW1] at hbW1 kn
  have c4 : W1.cell? ⟨w.heap.size, 4, none⟩ = some (.slice na nn nc) := kn.cell (i := 4) rfl
  have knH := Lib.hid kn
  have hrnH := Lib.hid (later_l hrn hbW1)
  have hrlH := Lib.hid (later_i hrl hbW1)
  clear kn hrn hrl
  go_enter Tryz.func52, Tryz.ntmps52
  go_wp2_with fail
  clear hEW1 c4
  go_loopw [1, 18] (fun v i wr => ∃ (k : Nat) (a : Option Addr) (c : Nat), k ≤ nn ∧ i = .int .i64 (k : Int) ∧ v = .slice a (widthN N.nf N.Ls k) c ∧ Hid (Rd wr.heap.size wr a (numAt N.Ls x k)) ∧ Below W1.heap.size W1 wr) (fun _ i _ => nn - (intOf i).toNat)
  case atStart => exact ⟨0, la, lc, Nat.zero_le _, rfl, rfl, hrlH, Below.refl _ _⟩
  case round =>
    obtain ⟨k, a, c, hk, rfl, rfl, hra, hb⟩ := hrel
    obtain ⟨wo, hwo⟩ : ∃ X : World, X = wr := ⟨_, rfl⟩
    subst hwo
    have hB := hbW1.trans (hb.mono hbW1.size)
    by_cases hlt : k < nn
    case neg =>
      have hkn : k = nn := by omega
      subst hkn
      have hone : widthN N.nf N.Ls k = 1 := by rw [← hnnH.out]; exact hNH.out.one
      have hsc := scoreN_at N.Ls x
      rw [hnnH.out] at hsc
      have hlen : (numAt N.Ls x k).length = 1 := by rw [numAt_len, hxH.out, hone]
      rcases hra.out with h0 | ⟨ab, ao, rfl, hab, hac⟩
      · rw [h0] at hlen; simp at hlen
      have hcl := hac 0 (by omega)
      rw [Nat.add_zero] at hcl
      rw [← hsc] at hcl
      obtain ⟨z, hz⟩ : ∃ z, scoreN N.Ls x = z := ⟨_, rfl⟩
      rw [hz] at hcl
      rw [hone]
      have hzH := Lib.hid hz
      clear hz hsc hlen hac hra
      go_wp2_with fail
      go_ret
      exact ⟨ret_int hzH.out.symm, hB⟩
    case pos =>
      have hkl : k < N.Ls.length := by have := hnnH.out; omega
      obtain ⟨nb, no, rfl, hnb, wa, wc, ba, bc, hc1, hc2, hws, hbs⟩ := (later_l hrnH.out hb).at hkl
      have hLok := hNH.out.ly k hkl
      have hlb := hbdH.out k (by omega)
      have hlw := width_le hNH.out (show k ≤ N.Ls.length by omega)
      have hlen : (numAt N.Ls x k).length = widthN N.nf N.Ls k := by rw [numAt_len, hxH.out]
      obtain ⟨L, hL⟩ : ∃ L, layAt N.Ls k = L := ⟨_, rfl⟩
      obtain ⟨B, hBe⟩ : ∃ B, widthN N.nf N.Ls k = B := ⟨_, rfl⟩
      obtain ⟨l, hle⟩ : ∃ l, numAt N.Ls x k = l := ⟨_, rfl⟩
      rw [hL] at hc1 hc2 hws hbs hLok
      rw [hBe] at hLok hlw hlen ⊢
      rw [hle] at hlb hlen hra
      obtain ⟨wl, hwl⟩ : ∃ y, L.ws.length = y := ⟨_, rfl⟩
      obtain ⟨bl, hbl⟩ : ∃ y, L.bs.length = y := ⟨_, rfl⟩
      rw [hwl] at hc1
      rw [hbl] at hc2
      have hwb : wl = bl := by rw [← hwl, ← hbl]; exact hLok.ws
      have hb1 : 1 ≤ bl := by rw [← hbl]; exact hLok.b1
      have hb8 : bl ≤ 8 := by rw [← hbl]; exact hLok.b8
      subst hwb
      have hLH := Lib.hid hL
      have hBH := Lib.hid hBe
      have hleH := Lib.hid hle
      have hwlH := Lib.hid hwl
      have hblH := Lib.hid hbl
      have hLokH := Lib.hid hLok
      have hlbH := Lib.hid hlb
      have hlenH := Lib.hid hlen
      clear hL hBe hle hwl hbl hLok hlb hlen
      have hbW2 : Below wo.heap.size wo (wo.alloc (.cells #[.slice wa wl wc, .slice ba wl bc] 87)) := jb_al (Below.refl _ wo) _
      have kl := Blk.new wo 87 #[.slice wa wl wc, .slice ba wl bc]
      obtain ⟨W2, hEW2⟩ : ∃ X, wo.alloc (.cells #[.slice wa wl wc, .slice ba wl bc] 87) = X := ⟨_, rfl⟩
      rw [hEW2] at hbW2 kl
      have m0 : W2.cell? ⟨wo.heap.size, 0, none⟩ = some (.slice wa wl wc) := kl.cell (i := 0) rfl
      have m1 : W2.cell? ⟨wo.heap.size, 1, none⟩ = some (.slice ba wl bc) := kl.cell (i := 1) rfl
      have hwsH := Lib.hid (later_w hws hbW2)
      have hbsH := Lib.hid (later_i hbs hbW2)
      have hraH := Lib.hid (later_i hra.out hbW2)
      have klH := Lib.hid kl
      have hb2 := hb.trans (hbW2.mono hb.size)
      have kn2H := Lib.hid (knH.out.below hb2 knH.out.lt)
      have hls : wo.heap.size < W2.heap.size := kl.lt
      have hzH := Lib.hid (jmade_int wl)
      clear kl hws hbs hra
      go_wp2_with (at_make; refine wpList_make_full _ rfl _ _ 102 rfl W2.heap.size 103 i0 (.int .i64 0) 1 Tryz.underlying102 hi hz0 hz1 .i64 .i64 (wl : Int) (wl : Int) wl rfl rfl (by simp) (by simp) (by rw [hz2]; omega) (by unfold maxLen; omega) (by simp) ?_; intro W3 hown hg; have kl3 := klH.out.kept hg (by simp); clear m0 m1; have m0 : W3.cell? ⟨wo.heap.size, 0, none⟩ = some (.slice wa wl wc) := kl3.cell (i := 0) rfl; have m1 : W3.cell? ⟨wo.heap.size, 1, none⟩ = some (.slice ba wl bc) := kl3.cell (i := 1) rfl)
      obtain ⟨f, hf⟩ : ∃ f, layF L (decide (k + 1 < nn)) l = f := ⟨_, rfl⟩
      have row3 : W3.ownsRow W2.heap.size 103 1 (.slice (some ⟨W2.heap.size, 0, none⟩) wl wl) wl (madeCells (Value.cells (.int .i64 0)) (wl * 1)).toList := hown
      rw [hzH.out, ← layTo_zero f wl] at row3
      have hb3 : Below W2.heap.size W2 W3 := (Below.refl _ _).grown hg (Nat.le_refl _) (fun k e => by cases e)
      have hfH := Lib.hid hf
      clear hown hg hzH m0 m1 kl3 hEW2 hf
      go_loopw [30] (fun i wv => ∃ j : Nat, j ≤ wl ∧ i = .int .i64 (j : Int) ∧ wv.ownsRow W2.heap.size 103 1 (.slice (some ⟨W2.heap.size, 0, none⟩) wl wl) wl ((layTo f wl j).map (Value.int .i64)) ∧ Below W2.heap.size W2 wv) (fun i _ => wl - (intOf i).toNat)
      case atStart => exact ⟨0, Nat.zero_le _, rfl, row3, hb3⟩
      case round =>
        clear row3 hb3 hc1 hc2
        obtain ⟨j, hj, rfl, rowj, hb4⟩ := hrel
        have klj := klH.out.below hb4 hls
        have knj := kn2H.out.below hb4 (by have := hb2.size; have := knH.out.lt; omega)
        have m0 : wr.cell? ⟨wo.heap.size, 0, none⟩ = some (.slice wa wl wc) := klj.cell (i := 0) rfl
        have m1 : wr.cell? ⟨wo.heap.size, 1, none⟩ = some (.slice ba wl bc) := klj.cell (i := 1) rfl
        have c4 : wr.cell? ⟨w.heap.size, 4, none⟩ = some (.slice (some ⟨nb, no, none⟩) nn nc) := knj.cell (i := 4) rfl
        clear klj knj
        by_cases hlt2 : j < wl
        case neg =>
          have hjw : j = wl := by omega
          subst hjw
          rw [layTo_all] at rowj
          have hnxt : numAt N.Ls x (k + 1) = (List.range j).map f := by
            show layL (layAt N.Ls k) (decide (k + 1 < N.Ls.length)) (numAt N.Ls x k) = _
            rw [hLH.out, hleH.out, hnnH.out]
            unfold layL
            rw [hblH.out, hfH.out]
          have hwid : widthN N.nf N.Ls (k + 1) = j := by
            show (layAt N.Ls k).bs.length = j
            rw [hLH.out, hblH.out]
          have hrdn := rowU_rd (by simp) rowj
          rw [← hnxt] at hrdn
          have hrdnH := Lib.hid hrdn
          have hwidH := Lib.hid hwid
          have hb5 := hb2.trans (hb4.mono hb2.size)
          clear hnxt hrdn hwid rowj
          go_wp2_with fail
          go_roundw
          case rel => exact ⟨k + 1, _, _, by omega, by go_num, by rw [hwidH.out], hrdnH, hb5⟩
          case measure => simp [intOf]; omega
        case pos =>
          have hjb : j < L.bs.length := by have := hblH.out; omega
          have hjw : j < L.ws.length := by have := hwlH.out; omega
          rcases hbsH.out with h0 | ⟨bb, bo, rfl, hbb, hbc⟩
          · rw [h0] at hjb; simp at hjb
          have hcb := (hb4.cell (p := ⟨bb, bo + j, none⟩) hbb).trans (hbc j hjb)
          obtain ⟨wb, wq, rfl, hwb, ra, rc, hcw, hrow⟩ := hwsH.out.at hjw
          have hcw1 := (hb4.cell (p := ⟨wb, wq + j, none⟩) hwb).trans hcw
          obtain ⟨hrl, hrw⟩ := hLokH.out.row j hjb
          rw [hrl] at hcw1
          have hrow1 := hrow.below (Nat.le_refl _) hb4
          have hra1 := hraH.out.below (Nat.le_refl _) hb4
          obtain ⟨r, hre⟩ : ∃ r, L.ws[j]?.getD [] = r := ⟨_, rfl⟩
          obtain ⟨bv, hbv⟩ : ∃ y, L.bs[j]?.getD 0 = y := ⟨_, rfl⟩
          rw [hre] at hrow1 hrl hrw
          rw [hbv] at hcb
          have hbv2 : bAt L j = bv := hbv
          have hreH := Lib.hid hre
          have hbvH := Lib.hid hbv2
          have hrlH := Lib.hid hrl
          have hrow1H := Lib.hid hrow1
          have hra1H := Lib.hid hra1
          have hrwH := Lib.hid hrw
          clear hbc hrow hre hbv hbv2 hrl hrow1 hra1 hrw hcw
          have tok1 : True := trivial
          have tok2 : True := trivial
          go_wp2_with (go_at_call 53; have _t := tok1; refine (bias_num _ _).mono ?_; clear _t tok1; rintro e w1 ⟨rfl, rfl⟩)
          go_loop [12, 44] (fun s i => ∃ (q : Nat) (z : Int), q ≤ B ∧ i = .int .i64 (q : Int) ∧ s = .int .i64 z ∧ Hid (partL L l j q = z)) (fun _ i => B - (intOf i).toNat)
          case atStart => exact ⟨0, bv, Nat.zero_le _, rfl, rfl, Lib.hid (by unfold partL; rw [hbvH.out]; simp [sumJ])⟩
          case round =>
            obtain ⟨q, z, hq, rfl, rfl, hz⟩ := hrel
            by_cases hlt3 : q < B
            case neg =>
              have hqB : q = B := by omega
              subst hqB
              have hfj : f j = cutI (decide (k + 1 < nn)) z := by rw [← hfH.out, ← hz.out]; unfold layF partL; rw [hlenH.out]
              have hst := (rowj.stored j (.int .i64 (f j))).1
              simp only [map_set_i] at hst
              rw [layTo_set f hlt2] at hst
              have hcz := rowj.cellAt j (by rw [Nat.mul_one]; exact hlt2)
              rw [List.getElem?_map, List.getElem?_eq_getElem (by rw [layTo_length]; exact hlt2)] at hcz
              simp only [Option.map_some] at hcz
              obtain ⟨y0, hy0⟩ : ∃ y, (layTo f wl j)[j]'(by rw [layTo_length]; exact hlt2) = y := ⟨_, rfl⟩
              rw [hy0] at hcz
              change wr.cell? ⟨W2.heap.size, j, none⟩ = some (.int .i64 y0) at hcz
              have hfr := rowj.frozenAt j
              have hnx : ∀ v, f j = v → (wr.setCell ⟨W2.heap.size, j, none⟩ (.int .i64 v)).ownsRow W2.heap.size 103 1 (.slice (some ⟨W2.heap.size, 0, none⟩) wl wl) wl ((layTo f wl (j + 1)).map (Value.int .i64)) ∧ Below W2.heap.size W2 (wr.setCell ⟨W2.heap.size, j, none⟩ (.int .i64 v)) := fun v hv => by
                rw [← hv]
                exact ⟨hst, hb4.setCell (p := ⟨W2.heap.size, j, none⟩) (Nat.le_refl _) _⟩
              have hnxH := Lib.hid hnx
              clear hst hy0 hz hnx
              by_cases hlast : k + 1 < nn
              case pos =>
                rw [decide_eq_true hlast] at hfj
                have hd : decide ((k : Int) < (nn : Int) - 1) = true := by simp; omega
                have hd2 : (k : Int) < (nn : Int) - 1 := by omega
                have hfjH := Lib.hid hfj
                clear hfj
                go_wp2_with (go_at_call 182; have _t := tok2; refine (cut_num _ _).mono ?_; clear _t tok2; rintro e w1 ⟨rfl, rfl⟩)
                go_roundw
                case rel => exact ⟨j + 1, by omega, by go_num, (hnxH.out _ hfjH.out).1, (hnxH.out _ hfjH.out).2⟩
                case measure => simp [intOf]; omega
              case neg =>
                rw [decide_eq_false hlast] at hfj
                have hd : decide ((k : Int) < (nn : Int) - 1) = false := by simp; omega
                have hd2 : ¬ ((k : Int) < (nn : Int) - 1) := by omega
                have hfjH := Lib.hid (hfj.trans (show cutI false z = z from rfl))
                clear hfj
                go_wp2_with fail
                go_roundw
                case rel => exact ⟨j + 1, by omega, by go_num, (hnxH.out _ hfjH.out).1, (hnxH.out _ hfjH.out).2⟩
                case measure => simp [intOf]; omega
            case pos =>
              have hqr : q < r.length := by have := hrlH.out; omega
              have hql : q < l.length := by have := hlenH.out; omega
              rcases hrow1H.out with h0 | ⟨rb, ro, rfl, hrb, hrc⟩
              · rw [h0] at hqr; simp at hqr
              rcases hra1H.out with h0 | ⟨ab, ao, rfl, hab, hac⟩
              · rw [h0] at hql; simp at hql
              have hcr := hrc q hqr
              have hcl := hac q hql
              have hwv : wAt L j q = r[q]?.getD 0 := by unfold wAt; rw [hreH.out]
              obtain ⟨u, hu⟩ : ∃ u, r[q]?.getD 0 = u := ⟨_, rfl⟩
              obtain ⟨y, hy⟩ : ∃ y, l[q]?.getD 0 = y := ⟨_, rfl⟩
              rw [hu] at hcr hwv
              rw [hy] at hcl
              have hub := wAt_bd hLokH.out hjb hlt3
              rw [hwv] at hub
              have hyb := hlbH.out q
              rw [hy] at hyb
              have hBm := Bn_max (i := k) (by omega)
              have hBm1 := Bn_max (i := k + 1) (by omega)
              have hBn := Bn_pos k
              have hpb := w_mul_bd hub.1 hub.2 hyb.1 hyb.2
              have hst : partL L l j (q + 1) = z + u * y := by
                rw [← hz.out, ← hy, ← hwv]; unfold partL; simp only [sumJ]; omega
              have hsb := partL_bd hLokH.out hlw.2 hBn hlbH.out hjb (m := q + 1) (by omega)
              rw [hst] at hsb
              have hBe1 : Bn (k + 1) = 1000000 + 16000 * Bn k := rfl
              rw [← hBe1] at hsb
              have hcallH := Lib.hid (fun W => plus_num z u y (by omega) (by omega) (by omega) (by omega) W)
              have hstH := Lib.hid hst
              clear hrc hac hu hy hwv hub hyb hBm hBm1 hBn hpb hst hsb hBe1
              go_wp2_with (go_at_call 183; have _t := tok2; refine (hcallH.out _).mono ?_; clear _t tok2; rintro e w1 ⟨rfl, rfl⟩)
              go_round
              case rel => exact ⟨q + 1, z + u * y, by omega, by go_num, rfl, hstH⟩
              case measure => simp [intOf]; omega

end Go.Proofs.YtbfigbpjoaccdaaGreat

namespace Go.Proofs.YtbfigbpjoaccdaaGreat
open Go Go.RowKit Go.Shelf
set_option linter.unusedVariables false
set_option linter.unusedSimpArgs false

set_option maxRecDepth 100000 in
set_option maxHeartbeats 2000000 in
theorem verdict_any (N : NetN) (na : Option Addr) (nn nc : Nat) (lo hi : Int) (w : World) :
    Calls Tryz.prog 54 #[netv N na nn nc, .agg #[.int .i64 lo, .int .i64 hi]] w fun e w' => e = .returned (.int .u8 ((verdB N.low N.high lo hi : Nat) : Int)) ∧ Below w.heap.size w w' := by
  obtain ⟨W, H, GX, GY, Ls, low, high⟩ := N
  simp only
  have hB1 : Below w.heap.size w (w.alloc (.cells #[.int .i64 W, .int .i64 H, .int .i64 GX, .int .i64 GY, .slice na nn nc, .int .i64 low, .int .i64 high] 24)) := jb_al (Below.refl _ w) _
  have hB2 := jb_al hB1 (.cells #[.int .i64 lo, .int .i64 hi] 99)
  by_cases h1 : high ≤ lo
  · have hv := Lib.hid (show verdB low high lo hi = 1 by unfold verdB; rw [if_pos h1])
    go_enter Tryz.func54, Tryz.ntmps54
    go_wp2_with fail
    go_ret
    exact ⟨by rw [hv.out]; rfl, hB2⟩
  · by_cases h2 : hi ≤ low
    · have hv := Lib.hid (show verdB low high lo hi = 2 by unfold verdB; rw [if_neg h1, if_pos h2])
      go_enter Tryz.func54, Tryz.ntmps54
      go_wp2_with fail
      go_ret
      exact ⟨by rw [hv.out]; rfl, hB2⟩
    · have hv := Lib.hid (show verdB low high lo hi = 3 by unfold verdB; rw [if_neg h1, if_neg h2])
      go_enter Tryz.func54, Tryz.ntmps54
      go_wp2_with fail
      go_ret
      exact ⟨by rw [hv.out]; rfl, hB2⟩
theorem take_map_i {xs : List Int} {k : Nat} (hk : k < xs.length) {x : Int} (hx : xs[k]?.getD 0 = x) : (xs.take k).map (Value.int .i64) ++ [Value.int .i64 x] = (xs.take (k + 1)).map (Value.int .i64) := by
  rw [List.take_succ_eq_append_getElem hk, List.map_append, ← hx, List.getElem?_eq_getElem hk]; rfl
/-- What both Classify answer. -/
def RetCla (N : NetN) (m : ImN) (w : World) (e : Ending) (w' : World) : Prop :=
  ∃ s v : Int, e = .returned (.tuple #[.int .i64 s, .int .u8 v, .int .i64 (chkF N [m])]) ∧ s = (if chkF N [m] = 0 then scoreN N.Ls (featL N m.px) else 0) ∧
    v = (if chkF N [m] = 0 then ((verdB N.low N.high (scoreN N.Ls (featL N m.px)) (scoreN N.Ls (featL N m.px)) : Nat) : Int) else 0) ∧ Below w.heap.size w w'

set_option maxRecDepth 100000 in
set_option maxHeartbeats 4000000 in
theorem Classify_any (N : NetN) (na : Option Addr) (nn nc : Nat) (hnn : N.Ls.length = nn) (hz : NetSz N) (m : ImN) (pa : Option Addr) (l pc : Nat) (hl : m.px.length = l) (hpm : l ≤ 9223372036854775807)
    (w : World) (hrn : RdLs w.heap.size w na N.Ls) (hp : Rd w.heap.size w pa m.px) :
    Calls Tryz.prog 19 #[netv N na nn nc, imv m.w m.h pa l pc] w (RetCla N m w) := by
  obtain ⟨v, hv⟩ : ∃ v, chkF N [m] = v := ⟨_, rfl⟩
  obtain ⟨i0, hi, hz0, hz1, hz2⟩ := info_parts jinfo_num
  have tok1 : True := trivial
  have tok2 : True := trivial
  have tok3 : True := trivial
  have tok4 : True := trivial
  have hbW1 : Below w.heap.size w (w.alloc (.cells #[.int .i64 N.w, .int .i64 N.h, .int .i64 N.gx, .int .i64 N.gy, .slice na nn nc, .int .i64 N.low, .int .i64 N.high] 24)) := jb_al (Below.refl _ w) _
  have kn := Blk.new w 24 #[.int .i64 N.w, .int .i64 N.h, .int .i64 N.gx, .int .i64 N.gy, .slice na nn nc, .int .i64 N.low, .int .i64 N.high]
  obtain ⟨W1, hEW1⟩ : ∃ X, w.alloc (.cells #[.int .i64 N.w, .int .i64 N.h, .int .i64 N.gx, .int .i64 N.gy, .slice na nn nc, .int .i64 N.low, .int .i64 N.high] 24) = X := ⟨_, rfl⟩
  rw [hEW1] at hbW1 kn
  have hbW2 : Below W1.heap.size W1 (W1.alloc (.cells #[.int .i64 m.w, .int .i64 m.h, .slice pa l pc] 27)) := jb_al (Below.refl _ W1) _
  have ki := Blk.new W1 27 #[.int .i64 m.w, .int .i64 m.h, .slice pa l pc]
  obtain ⟨W2, hEW2⟩ : ∃ X, W1.alloc (.cells #[.int .i64 m.w, .int .i64 m.h, .slice pa l pc] 27) = X := ⟨_, rfl⟩
  rw [hEW2] at hbW2 ki
  have hbW3 : Below W2.heap.size W2 (W2.alloc (.cells #[.int .i64 m.w, .int .i64 m.h, .slice pa l pc] 27)) := jb_al (Below.refl _ W2) _
  have ks := Blk.new W2 27 #[.int .i64 m.w, .int .i64 m.h, .slice pa l pc]
  obtain ⟨W3, hEW3⟩ : ∃ X, W2.alloc (.cells #[.int .i64 m.w, .int .i64 m.h, .slice pa l pc] 27) = X := ⟨_, rfl⟩
  rw [hEW3] at hbW3 ks
  have hB : Below w.heap.size w W3 := hbW1.trans ((hbW2.trans (hbW3.mono hbW2.size)).mono hbW1.size)
  have kn3 := (kn.below hbW2 kn.lt).below hbW3 (Nat.lt_of_lt_of_le kn.lt hbW2.size)
  have ki3 := ki.below hbW3 ki.lt
  have c0 : W2.cell? ⟨w.heap.size, 0, none⟩ = some (.int .i64 N.w) := (kn.below hbW2 kn.lt).cell (i := 0) rfl
  have c1 : W2.cell? ⟨w.heap.size, 1, none⟩ = some (.int .i64 N.h) := (kn.below hbW2 kn.lt).cell (i := 1) rfl
  have c2 : W2.cell? ⟨w.heap.size, 2, none⟩ = some (.int .i64 N.gx) := (kn.below hbW2 kn.lt).cell (i := 2) rfl
  have c3 : W2.cell? ⟨w.heap.size, 3, none⟩ = some (.int .i64 N.gy) := (kn.below hbW2 kn.lt).cell (i := 3) rfl
  have c4 : W2.cell? ⟨w.heap.size, 4, none⟩ = some (.slice na nn nc) := (kn.below hbW2 kn.lt).cell (i := 4) rfl
  have c5 : W2.cell? ⟨w.heap.size, 5, none⟩ = some (.int .i64 N.low) := (kn.below hbW2 kn.lt).cell (i := 5) rfl
  have c6 : W2.cell? ⟨w.heap.size, 6, none⟩ = some (.int .i64 N.high) := (kn.below hbW2 kn.lt).cell (i := 6) rfl
  have d0 : W2.cell? ⟨W1.heap.size, 0, none⟩ = some (.int .i64 m.w) := ki.cell (i := 0) rfl
  have d1 : W2.cell? ⟨W1.heap.size, 1, none⟩ = some (.int .i64 m.h) := ki.cell (i := 1) rfl
  have d2 : W2.cell? ⟨W1.heap.size, 2, none⟩ = some (.slice pa l pc) := ki.cell (i := 2) rfl
  have hcall := check_any N na nn nc hnn hz [m] (some ⟨W2.heap.size, 0, none⟩) 1 1 rfl (by omega) (imAt_len (by simp; omega)) W3 (later_l hrn hB) (rdis_one hl ks (later_i hp hB)) v hv
  have hcallH := Lib.hid hcall
  have hpH := Lib.hid (later_i hp hB)
  have hrnH := Lib.hid (later_l hrn hB)
  have kn3H := Lib.hid kn3
  have ki3H := Lib.hid ki3
  have hlnH := Lib.hid hl
  clear hcall ks kn ki kn3 ki3 hp hl hrn hz
  by_cases h0 : v = 0
  case neg =>
    have h0' : (v != 0) = true := by simpa using h0
    have hfin : ∀ (W : World), Below W3.heap.size W3 W → RetCla N m w (.returned (.tuple #[.int .i64 0, .int .u8 0, .int .i64 v])) W := fun W hb => ⟨0, 0, by rw [hv], by rw [if_neg (by rw [hv]; exact h0)], by rw [if_neg (by rw [hv]; exact h0)], hB.trans (hb.mono hB.size)⟩
    have hfinH := Lib.hid hfin
    clear hfin hv hnn
    go_enter Tryz.func19, Tryz.ntmps19
    go_wp2_with (go_at_call 47; have _t := tok1; refine (hcallH.out).mono ?_; clear _t tok1; rintro e w4 ⟨rfl, hb4⟩)
    go_ret3
    exact hfinH.out _ hb4
  subst h0
  obtain ⟨hN, hw, hh, hc⟩ := chkF_zero hv
  have hpx : m.px.length ≤ 256 := by
    obtain ⟨pw, ph, _, _, _, _, _, _, _, _, _, _, _, _, g3, g4, hlen, _⟩ := net_letters hN hw hh hc
    rw [hlen]
    exact Nat.mul_le_mul g4.2 g3.2
  have hca := hc
  simp only [camB, Bool.and_eq_true] at hca
  have hfea := fun (W : World) (hb : Below W3.heap.size W3 W) => features_any N hN na nn nc m hw hh hc pa l pc hlnH.out W (later_i hpH.out hb)
  have hflen := featL_length N m.px
  have hfle := featL_le hN hpx hca.2
  have hnf := hN.nf.2.1
  obtain ⟨S, hS⟩ : ∃ S, scoreN N.Ls (featL N m.px) = S := ⟨_, rfl⟩
  have hfin : ∀ (W : World), Below W3.heap.size W3 W → RetCla N m w (.returned (.tuple #[.int .i64 S, .int .u8 ((verdB N.low N.high S S : Nat) : Int), .int .i64 0])) W := fun W hb =>
    ⟨S, _, by rw [hv], by rw [if_pos hv, hS], by rw [if_pos hv, hS], hB.trans (hb.mono hB.size)⟩
  obtain ⟨F, hF⟩ : ∃ F, featL N m.px = F := ⟨_, rfl⟩
  rw [hF] at hfea hflen hfle hS
  obtain ⟨nf, hnfe⟩ : ∃ n, N.nf = n := ⟨_, rfl⟩
  rw [hnfe] at hfea hflen hnf
  have hsc := fun (a : Option Addr) (c : Nat) (W : World) (hb : Below W3.heap.size W3 W) (hr : Rd W.heap.size W a F) => score_num N hN na nn nc hnn F (hflen.trans hnfe.symm) hfle a c W (later_l hrnH.out hb) hr
  rw [hS, hnfe] at hsc
  have hfeaH := Lib.hid hfea
  have hscH := Lib.hid hsc
  have hfinH := Lib.hid hfin
  have hflenH := Lib.hid hflen
  clear hfin hv hN hw hh hc hca hfea hsc hflen hfle hnn hF hS hnfe hpx
  go_enter Tryz.func19, Tryz.ntmps19
  go_wp2_with (first
    | (go_at_call 47; have _t := tok1; refine (hcallH.out).mono ?_; clear _t tok1; rintro e w4 ⟨rfl, hb4⟩; have kn4 := kn3H.out.below hb4 kn3H.out.lt; have ki4 := ki3H.out.below hb4 ki3H.out.lt; have q0 : w4.cell? ⟨w.heap.size, 0, none⟩ = some (.int .i64 N.w) := kn4.cell (i := 0) rfl; have q1 : w4.cell? ⟨w.heap.size, 1, none⟩ = some (.int .i64 N.h) := kn4.cell (i := 1) rfl; have q2 : w4.cell? ⟨w.heap.size, 2, none⟩ = some (.int .i64 N.gx) := kn4.cell (i := 2) rfl; have q3 : w4.cell? ⟨w.heap.size, 3, none⟩ = some (.int .i64 N.gy) := kn4.cell (i := 3) rfl; have q4 : w4.cell? ⟨w.heap.size, 4, none⟩ = some (.slice na nn nc) := kn4.cell (i := 4) rfl; have q5 : w4.cell? ⟨w.heap.size, 5, none⟩ = some (.int .i64 N.low) := kn4.cell (i := 5) rfl; have q6 : w4.cell? ⟨w.heap.size, 6, none⟩ = some (.int .i64 N.high) := kn4.cell (i := 6) rfl; have r0 : w4.cell? ⟨W1.heap.size, 0, none⟩ = some (.int .i64 m.w) := ki4.cell (i := 0) rfl; have r1 : w4.cell? ⟨W1.heap.size, 1, none⟩ = some (.int .i64 m.h) := ki4.cell (i := 1) rfl; have r2 : w4.cell? ⟨W1.heap.size, 2, none⟩ = some (.slice pa l pc) := ki4.cell (i := 2) rfl)
    | (go_at_call 49; have _t := tok2; refine (hfeaH.out w4 hb4).mono ?_; clear _t tok2; rintro e w5 ⟨s, sc, rfl, hrow, hb5⟩))
  have hb45 := hb4.trans (hb5.mono hb4.size)
  have hrdF := Lib.hid (rowI_rd hflenH.out hrow)
  have kn5 := Lib.hid (kn3H.out.below hb45 kn3H.out.lt)
  clear q0 q1 q2 q3 q4 q5 q6 r0 r1 r2 kn4 ki4 c0 c1 c2 c3 c4 c5 c6 d0 d1 d2 hrow hEW1 hEW2 hEW3 hcallH hfeaH
  go_loopw [8, 23] (fun u i wr => ∃ k : Nat, k ≤ nf ∧ i = .int .i64 (k : Int) ∧ wr.ownsRow w5.heap.size 103 1 u k ((F.take k).map (Value.int .i64)) ∧ Below w5.heap.size w5 wr) (fun _ i _ => nf - (intOf i).toNat)
  case atStart => exact ⟨0, Nat.zero_le _, rfl, World.ownsRow_nil _ _ _ _, Below.refl _ _⟩
  case round =>
    obtain ⟨k, hk, rfl, rowk, hb⟩ := hrel
    by_cases hlt : k < nf
    case pos =>
      have hkF : k < F.length := by have := hflenH.out; omega
      rcases hrdF.out with h0 | ⟨b, o, rfl, hb', hc⟩
      · rw [h0] at hkF; simp at hkF
      have hcell := (hb.cell (p := ⟨b, o + k, none⟩) hb').trans (hc k hkF)
      obtain ⟨x, hx⟩ : ∃ x, F[k]?.getD 0 = x := ⟨_, rfl⟩
      have htk := take_map_i hkF hx
      rw [hx] at hcell
      have htkH := Lib.hid htk
      have hownA := rowk.alloc (.cells #[.int .i64 x] 103)
      have hBA : Below w5.heap.size w5 (wr.alloc (.cells #[.int .i64 x] 103)) := jb_al2 hb _
      clear hx htk hc rowk
      go_wp2_with (at_builtin; refine wpList_append_own _ rfl _ _ 102 rfl w5.heap.size 103 i0 (.int .i64 0) 1 8 Tryz.underlying102 hi hz0 hz1 hz2 rfl (by decide) u8 k ((F.take k).map (Value.int .i64)) rfl hownA ⟨wr.heap.size, 0, none⟩ 1 1 [.int .i64 x] rfl rfl (cell_one_new _ _ _) (by simp [Value.oneCell']) (by unfold maxLen; omega) (by omega) hBA.size ?_; intro v' w4 hown' hgrow hnil)
      rw [htkH.out] at hown'
      have hBB := hBA.trans (below_of_row (n := w5.heap.size) hownA hgrow (Nat.le_refl _) hBA.size)
      go_roundw
      case rel => exact ⟨k + 1, by omega, by go_num, hown', hBB⟩
      case measure => simp [intOf]; omega
    case neg =>
      have hkn : k = nf := by omega
      subst hkn
      obtain ⟨s2, t2, rfl⟩ := jrow_slice rowk
      have hrd := rowU_rd (by rw [List.length_take, hflenH.out]; omega) rowk
      rw [List.take_of_length_le (by rw [hflenH.out]; omega)] at hrd
      have hrdH := Lib.hid hrd
      have kn6 := kn5.out.below hb kn5.out.lt
      have hbr := hb45.trans (hb.mono hb45.size)
      have kn6H := Lib.hid kn6
      have c0 : wr.cell? ⟨w.heap.size, 0, none⟩ = some (.int .i64 N.w) := kn6.cell (i := 0) rfl
      have c1 : wr.cell? ⟨w.heap.size, 1, none⟩ = some (.int .i64 N.h) := kn6.cell (i := 1) rfl
      have c2 : wr.cell? ⟨w.heap.size, 2, none⟩ = some (.int .i64 N.gx) := kn6.cell (i := 2) rfl
      have c3 : wr.cell? ⟨w.heap.size, 3, none⟩ = some (.int .i64 N.gy) := kn6.cell (i := 3) rfl
      have c4 : wr.cell? ⟨w.heap.size, 4, none⟩ = some (.slice na nn nc) := kn6.cell (i := 4) rfl
      have c5 : wr.cell? ⟨w.heap.size, 5, none⟩ = some (.int .i64 N.low) := kn6.cell (i := 5) rfl
      have c6 : wr.cell? ⟨w.heap.size, 6, none⟩ = some (.int .i64 N.high) := kn6.cell (i := 6) rfl
      clear rowk hrd kn6
      go_wp2_with (first
        | (go_at_call 52; have _t := tok3; refine (hscH.out s2 t2 wr hbr hrdH.out).mono ?_; clear _t tok3; rintro e w7 ⟨rfl, hb7⟩; have kn7 := kn6H.out.below hb7 kn6H.out.lt; have q0 : w7.cell? ⟨w.heap.size, 0, none⟩ = some (.int .i64 N.w) := kn7.cell (i := 0) rfl; have q1 : w7.cell? ⟨w.heap.size, 1, none⟩ = some (.int .i64 N.h) := kn7.cell (i := 1) rfl; have q2 : w7.cell? ⟨w.heap.size, 2, none⟩ = some (.int .i64 N.gx) := kn7.cell (i := 2) rfl; have q3 : w7.cell? ⟨w.heap.size, 3, none⟩ = some (.int .i64 N.gy) := kn7.cell (i := 3) rfl; have q4 : w7.cell? ⟨w.heap.size, 4, none⟩ = some (.slice na nn nc) := kn7.cell (i := 4) rfl; have q5 : w7.cell? ⟨w.heap.size, 5, none⟩ = some (.int .i64 N.low) := kn7.cell (i := 5) rfl; have q6 : w7.cell? ⟨w.heap.size, 6, none⟩ = some (.int .i64 N.high) := kn7.cell (i := 6) rfl)
        | (go_at_call 54; have _t := tok4; refine (verdict_any N na nn nc S S _).mono ?_; clear _t tok4; rintro e w8 ⟨rfl, hb8⟩))
      have hb78 := hbr.trans ((hb7.trans (hb8.mono hb7.size)).mono hbr.size)
      go_ret3
      exact hfinH.out _ hb78

end Go.Proofs.YtbfigbpjoaccdaaGreat
