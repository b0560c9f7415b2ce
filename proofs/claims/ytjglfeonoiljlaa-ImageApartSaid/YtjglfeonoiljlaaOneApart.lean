/- ImageApart returns true for every image and number. No condition. -/
import Derived.Test.YtjglfeonoiljlaaNear
import Derived.Test.YtjglfeonoiljlaaBas
import Derived.Test.YtjglfeonoiljlaaImgI
import Derived.Deep.DeepCutAuto
import Derived.Test.YtjglfeonoiljlaaAlive
import Derived.Test.YtjglfeonoiljlaaLab
import Derived.Lib.MinMax
import Derived.Test.YtjglfeonoiljlaaMorLaws
import Derived.Test.YtjglfeonoiljlaaHead
import Derived.Test.YtjglfeonoiljlaaOpen
namespace Go.Proofs.Ytjglfeonoiljlaa
set_option linter.unusedVariables false
set_option linter.unusedSimpArgs false

def nbrL (pw ph i : Nat) : List Nat :=
  (if 0 < i % pw then [i - 1] else []) ++ (if i % pw + 1 < pw then [i + 1] else []) ++ (if pw ≤ i then [i - pw] else []) ++ (if i < pw * (ph - 1) then [i + pw] else [])

theorem mem_nbrL {pw ph i k : Nat} (hi : i < pw * ph) : k ∈ nbrL pw ph i ↔ (0 < i % pw ∧ k = i - 1) ∨ (i % pw + 1 < pw ∧ k = i + 1) ∨ (pw ≤ i ∧ k = i - pw) ∨ (i < pw * (ph - 1) ∧ k = i + pw) := by
  unfold nbrL
  simp only [List.mem_append]
  constructor
  · rintro (((h | h) | h) | h) <;> split at h <;> simp at h
    · exact .inl ⟨by assumption, h⟩
    · exact .inr (.inl ⟨by assumption, h⟩)
    · exact .inr (.inr (.inl ⟨by assumption, h⟩))
    · exact .inr (.inr (.inr ⟨by assumption, h⟩))
  · rintro (⟨h, rfl⟩ | ⟨h, rfl⟩ | ⟨h, rfl⟩ | ⟨h, rfl⟩)
    · exact .inl (.inl (.inl (by rw [if_pos h]; simp)))
    · exact .inl (.inl (.inr (by rw [if_pos h]; simp)))
    · exact .inl (.inr (by rw [if_pos h]; simp))
    · exact .inr (by rw [if_pos h]; simp)

theorem nbrL_near {pw ph i k : Nat} (hi : i < pw * ph) (h : k ∈ nbrL pw ph i) : k < pw * ph ∧ nearB pw false i k = true := by
  have hpw : 0 < pw := by
    cases pw with
    | zero => simp at hi
    | succ k => omega
  have hph : 0 < ph := by
    cases ph with
    | zero => simp at hi
    | succ k => omega
  rw [nearB_four]
  have hsp := idx_split pw i
  have hx := Nat.mod_lt i hpw
  have hy : i / pw < ph := Nat.div_lt_of_lt_mul hi
  rw [mem_nbrL hi] at h
  obtain ⟨x, hxe⟩ : ∃ x, i % pw = x := ⟨_, rfl⟩
  obtain ⟨y, hye⟩ : ∃ y, i / pw = y := ⟨_, rfl⟩
  rw [hxe] at hsp hx h
  rw [hye] at hsp hy
  subst hsp
  have key : ∀ u v : Nat, u < pw → v < ph → ((u : Int) - x).natAbs + ((v : Int) - y).natAbs = 1 → v * pw + u < pw * ph ∧ l1 pw (y * pw + x) (v * pw + u) = 1 := fun u v hu hv hd => by
    refine ⟨idx_bound hu hv, ?_⟩
    unfold l1 dX dY
    rw [idx_mod y hx, idx_mod v hu, idx_div y hx, idx_div v hu]
    omega
  rcases h with ⟨h, rfl⟩ | ⟨h, rfl⟩ | ⟨h, rfl⟩ | ⟨h, rfl⟩
  · have := key (x - 1) y (by omega) hy (by omega)
    rw [show y * pw + x - 1 = y * pw + (x - 1) by omega]; exact this
  · have := key (x + 1) y (by omega) hy (by omega)
    rw [show y * pw + x + 1 = y * pw + (x + 1) by omega]; exact this
  · have hy0 : 0 < y := by
      cases y with
      | zero => omega
      | succ k => omega
    have e : y * pw = (y - 1) * pw + pw := by rw [← Nat.succ_mul]; congr 1; omega
    have := key x (y - 1) hx (by omega) (by omega)
    rw [show y * pw + x - pw = (y - 1) * pw + x by omega]; exact this
  · have hyh : y + 1 < ph := by
      refine Nat.lt_of_not_le fun hc => ?_
      have h1 : (ph - 1) * pw ≤ y * pw := Nat.mul_le_mul_right pw (by omega)
      rw [Nat.mul_comm pw (ph - 1)] at h
      omega
    have := key x (y + 1) hx hyh (by omega)
    rw [show y * pw + x + pw = (y + 1) * pw + x by rw [Nat.add_mul]; omega]; exact this

theorem near_nbrL {pw ph i k : Nat} (hi : i < pw * ph) (hk : k < pw * ph) (h : nearB pw false i k = true) : k ∈ nbrL pw ph i := by
  have hpw : 0 < pw := by
    cases pw with
    | zero => simp at hi
    | succ k => omega
  rw [nearB_four] at h
  rw [mem_nbrL hi]
  have hsp := idx_split pw i
  have hsk := idx_split pw k
  have hx := Nat.mod_lt i hpw
  have hu := Nat.mod_lt k hpw
  have hy : i / pw < ph := Nat.div_lt_of_lt_mul hi
  have hv : k / pw < ph := Nat.div_lt_of_lt_mul hk
  unfold l1 dX dY at h
  obtain ⟨x, hxe⟩ : ∃ x, i % pw = x := ⟨_, rfl⟩
  obtain ⟨y, hye⟩ : ∃ y, i / pw = y := ⟨_, rfl⟩
  obtain ⟨u, hue⟩ : ∃ x, k % pw = x := ⟨_, rfl⟩
  obtain ⟨v, hve⟩ : ∃ y, k / pw = y := ⟨_, rfl⟩
  rw [hxe] at hsp hx h ⊢
  rw [hye] at hsp hy h
  rw [hue] at hsk hu h
  rw [hve] at hsk hv h
  have hc : (v = y ∧ (u + 1 = x ∨ u = x + 1)) ∨ (u = x ∧ (v + 1 = y ∨ v = y + 1)) := by omega
  rcases hc with ⟨rfl, h1 | h1⟩ | ⟨rfl, h1 | h1⟩
  · exact .inl ⟨by omega, by omega⟩
  · exact .inr (.inl ⟨by omega, by omega⟩)
  · have e : y * pw = v * pw + pw := by rw [← h1, Nat.add_mul]; omega
    exact .inr (.inr (.inl ⟨by omega, by omega⟩))
  · have e : v * pw = y * pw + pw := by rw [h1, Nat.add_mul]; omega
    have e2 : (y + 1) * pw ≤ (ph - 1) * pw := Nat.mul_le_mul_right pw (by omega)
    rw [Nat.add_mul, Nat.mul_comm (ph - 1) pw] at e2
    exact .inr (.inr (.inr ⟨by omega, by omega⟩))

end Go.Proofs.Ytjglfeonoiljlaa
namespace Go.Proofs.Ytjglfeonoiljlaa
set_option linter.unusedVariables false
set_option linter.unusedSimpArgs false

theorem nbrL_length (pw ph i : Nat) : (nbrL pw ph i).length ≤ 4 := by
  unfold nbrL
  simp only [List.length_append]
  split <;> split <;> split <;> split <;> simp

variable {pw ph : Nat} {z : Nat → Bool}

/-! ### Distances -/

theorem nearest_none (h : ∀ k, k < pw * ph → z k = false) (i : Nat) : nearest pw ph z i = (pw : Int) + ph := by
  unfold nearest
  rcases nearTo_cases pw ph z i (pw * ph) with hc | ⟨k, h1, h2, _⟩
  · exact hc
  · rw [h k h1] at h2; cases h2
theorem nearest_near {i : Nat} (hi : i < pw * ph) (hz : ∃ k, k < pw * ph ∧ z k = true) : ∃ k, k < pw * ph ∧ z k = true ∧ nearest pw ph z i = (l1 pw k i : Nat) := by
  unfold nearest
  rcases nearTo_cases pw ph z i (pw * ph) with hc | h
  · obtain ⟨k, hk, hzk⟩ := hz
    have h1 := nearTo_le (pw := pw) (ph := ph) (i := i) hk hzk
    have hpw : 0 < pw := Nat.pos_of_ne_zero (by rintro rfl; simp at hi)
    have a1 := Nat.mod_lt i hpw
    have a2 := Nat.mod_lt k hpw
    have a3 : i / pw < ph := Nat.div_lt_of_lt_mul hi
    have a4 : k / pw < ph := Nat.div_lt_of_lt_mul hk
    rw [hc] at h1
    unfold l1 dX dY at h1
    generalize i % pw = x at *
    generalize i / pw = y at *
    generalize k % pw = u at *
    generalize k / pw = v at *
    omega
  · exact h
theorem nearest_pos (i : Nat) : 0 ≤ nearest pw ph z i := nearTo_pos pw ph z i _
theorem nearest_zero_iff {i : Nat} (hi : i < pw * ph) (hz : ∃ k, k < pw * ph ∧ z k = true) : nearest pw ph z i = 0 ↔ z i = true := by
  constructor
  · intro h
    obtain ⟨k, hk, hzk, e⟩ := nearest_near hi hz
    have : l1 pw k i = 0 := by omega
    rw [← l1_zero pw this]; exact hzk
  · exact nearest_zero hi
theorem nearest_nbr {i j : Nat} (hi : i < pw * ph) (hj : j ∈ nbrL pw ph i) : nearest pw ph z i - nearest pw ph z j ≤ 1 ∧ -1 ≤ nearest pw ph z i - nearest pw ph z j := by
  have h := nearB_four.1 (nbrL_near hi hj).2
  have h1 := nearest_step (ph := ph) (z := z) h
  have h2 := nearest_step (ph := ph) (z := z) (show l1 pw j i = 1 by rw [l1_comm]; exact h)
  omega
theorem nearest_nearer {i : Nat} (hi : i < pw * ph) (hz : ∃ k, k < pw * ph ∧ z k = true) (h0 : nearest pw ph z i ≠ 0) : ∃ j, j ∈ nbrL pw ph i ∧ nearest pw ph z i - nearest pw ph z j = 1 := by
  obtain ⟨k, hk, hzk, e⟩ := nearest_near hi hz
  rw [l1_comm] at e
  obtain ⟨d, hd⟩ : ∃ d, l1 pw i k = d + 1 := ⟨l1 pw i k - 1, by omega⟩
  obtain ⟨j, hj, h1, h2⟩ := step_toward hi hk hd
  refine ⟨j, near_nbrL hi hj (nearB_four.2 h1), ?_⟩
  have h3 := nearest_step (ph := ph) (z := z) (show l1 pw j i = 1 by rw [l1_comm]; exact h1)
  have h4 : nearest pw ph z j ≤ (l1 pw k j : Nat) := nearTo_le hk hzk
  rw [l1_comm] at h4
  omega

/-- Whether one of the first k pixels is one of these. -/
def anyTo (z : Nat → Bool) : Nat → Bool
  | 0 => false
  | k + 1 => anyTo z k || z k
theorem anyTo_iff {k : Nat} : anyTo z k = true ↔ ∃ j, j < k ∧ z j = true := by
  induction k with
  | zero => simp [anyTo]
  | succ k ih =>
    simp only [anyTo, Bool.or_eq_true, ih]
    constructor
    · rintro (⟨j, h1, h2⟩ | h)
      · exact ⟨j, by omega, h2⟩
      · exact ⟨k, by omega, h⟩
    · rintro ⟨j, h1, h2⟩
      by_cases e : j = k
      · subst e; exact .inr h2
      · exact .inl ⟨j, by omega, h2⟩

/-- Whether the pixel itself, or one of the first k of a list, is nearer by 1. -/
def nearerTo (d : Nat → Int) (i : Nat) (l : List Nat) (k : Nat) : Bool := decide (d i = 0) || (l.take k).any fun j => decide (d i - d j = 1)
theorem nearerTo_zero (d : Nat → Int) (i : Nat) (l : List Nat) : nearerTo d i l 0 = decide (d i = 0) := by simp [nearerTo]
theorem nearerTo_succ (d : Nat → Int) (i : Nat) (l : List Nat) {k j : Nat} (h : l[k]? = some j) : nearerTo d i l (k + 1) = (nearerTo d i l k || decide (d i - d j = 1)) := by
  have : l.take (k + 1) = l.take k ++ [j] := by rw [List.take_add_one, h]; rfl
  simp only [nearerTo, this, List.any_append, List.any_cons, List.any_nil, Bool.or_false, Bool.or_assoc]
theorem nearerTo_all {i : Nat} (hi : i < pw * ph) (hz : ∃ k, k < pw * ph ∧ z k = true) : nearerTo (nearest pw ph z) i (nbrL pw ph i) (nbrL pw ph i).length = true := by
  unfold nearerTo
  rw [List.take_length]
  by_cases h0 : nearest pw ph z i = 0
  · simp [h0]
  · obtain ⟨j, h1, h2⟩ := nearest_nearer hi hz h0
    simp only [Bool.or_eq_true, List.any_eq_true, decide_eq_true_eq]
    exact .inr ⟨j, h1, h2⟩

/-! ### Basins -/

variable {m : Nat → Int}
theorem lowL_nbrL {i : Nat} (hi : i < pw * ph) : lowL m i (nbrL pw ph i) = lowest pw ph m i := by
  have h1 := lowL_isLow m i (nbrL pw ph i)
  have h2 := lowest_isLow pw ph m i
  refine IsLow.unique h1 ?_
  have e : (fun c => c < pw * ph ∧ nearB pw false i c = true) = fun c => c ∈ nbrL pw ph i := by
    funext c
    exact propext ⟨fun h => near_nbrL hi h.1 h.2, fun h => nbrL_near hi h⟩
  rw [← e]; exact h2
def lowAt (m : Nat → Int) (i : Nat) (l : List Nat) (k : Nat) : Nat := lowL m i (l.take k)
theorem lowAt_zero (m : Nat → Int) (i : Nat) (l : List Nat) : lowAt m i l 0 = i := by simp [lowAt, lowL]
theorem lowAt_succ (m : Nat → Int) (i : Nat) (l : List Nat) {k j : Nat} (h : l[k]? = some j) : lowAt m i l (k + 1) = if better m (lowAt m i l k) j = true then j else lowAt m i l k := by
  have : l.take (k + 1) = l.take k ++ [j] := by rw [List.take_add_one, h]; rfl
  unfold lowAt
  rw [this, lowL_snoc]
theorem lowAt_all {i : Nat} (hi : i < pw * ph) : lowAt m i (nbrL pw ph i) (nbrL pw ph i).length = lowest pw ph m i := by
  unfold lowAt
  rw [List.take_length, lowL_nbrL hi]
theorem lowL_ltN {N : Nat} : ∀ (l : List Nat) (i : Nat), i < N → (∀ j ∈ l, j < N) → lowL m i l < N
  | [], i, hi, _ => hi
  | j :: l, i, hi, h => by
    show lowL m (if better m i j = true then j else i) l < N
    refine lowL_ltN l _ ?_ fun k hk => h k (List.mem_cons_of_mem _ hk)
    split
    · exact h j List.mem_cons_self
    · exact hi
theorem lowAt_lt {i : Nat} (hi : i < pw * ph) (k : Nat) : lowAt m i (nbrL pw ph i) k < pw * ph :=
  lowL_ltN _ _ hi fun j hj => (nbrL_near hi (List.mem_of_mem_take hj)).1

theorem basinL_px {i : Nat} (hi : i < pw * ph) : px (basinL pw ph m) i = ((endsTo pw ph m (rootF pw ph m i + 1) : Nat) : Int) := by
  unfold basinL
  exact px_map_range _ hi
theorem basinL_low (hm : ∀ k, -2147483648 ≤ m k) {i : Nat} (hi : i < pw * ph) : px (basinL pw ph m) i = px (basinL pw ph m) (lowest pw ph m i) := by
  rw [basinL_px hi, basinL_px (lowest_lt hi), rootF_step hm hi]
theorem basinL_end {i : Nat} (hi : i < pw * ph) (h : lowest pw ph m i = i) : px (basinL pw ph m) i = ((endsTo pw ph m i + 1 : Nat) : Int) := by
  rw [basinL_px hi, rootF_end h, ends_end h]

end Go.Proofs.Ytjglfeonoiljlaa
namespace Go.Proofs.Ytjglfeonoiljlaa
open Go Go.RowKit Go.Shelf
set_option linter.unusedVariables false
set_option linter.unusedSimpArgs false

/-- The memory within 'neighbours': the list so far, the image's box. -/
structure NS (cs : Array Value) (w : World) (L : List Nat) (v : Value) (W : World) : Prop where
  own : W.ownsRow w.heap.size 3 1 v L.length (L.map fun k : Nat => Value.int .i64 (k : Int))
  k : Blk W w.heap.size 24 cs
  bel : Below w.heap.size w W

theorem NS.app {cs : Array Value} {w : World} {L : List Nat} {v v' : Value} {W W' : World} {x : Nat} {y : Int} {o : Obj} (h : NS cs w L v W) (hxy : y = (x : Int))
    (hown : W'.ownsRow w.heap.size 3 1 v' (L.length + 1) ((L.map fun k : Nat => Value.int .i64 (k : Int)) ++ [.int .i64 y])) (hg : (W.alloc o).grownBy W' v.ownBlock) : NS cs w (L ++ [x]) v' W' := by
  subst hxy
  refine ⟨?_, (h.k.alloc o).kept hg ((h.k.alloc o).not_row (by decide) (h.own.alloc o)), ?_⟩
  · rw [List.length_append, List.map_append]; exact hown
  · exact (below_al h.bel o).trans (below_of_row (n := w.heap.size) (h.own.alloc o) hg (Nat.le_refl _) (below_al h.bel o).size)

set_option maxRecDepth 100000 in
set_option maxHeartbeats 8000000 in
theorem lneighbours_any (pw ph i : Nat) (a : Option Addr) (c n : Nat) (h1 : 1 ≤ pw) (h2 : pw ≤ 16) (h3 : 1 ≤ ph) (h4 : ph ≤ 16) (hi : i < pw * ph) (w : World) :
    Calls Try.prog 63 #[imv pw ph a n c, .int .i64 i] w fun e w' => (∃ va vc, e = .returned (.slice va (nbrL pw ph i).length vc) ∧ w'.ownsRow w.heap.size 3 1 (.slice va (nbrL pw ph i).length vc) (nbrL pw ph i).length ((nbrL pw ph i).map fun k : Nat => Value.int .i64 (k : Int))) ∧ Below w.heap.size w w' := by
  obtain ⟨i0, hi0, hz0, hz1, hz2⟩ := info_parts info_int
  have hi256 : i < 256 := by have := Nat.mul_le_mul h2 h4; omega
  obtain ⟨L0, hL0⟩ : ∃ L : List Nat, [] = L := ⟨_, rfl⟩
  obtain ⟨L1, hL1⟩ : ∃ L, L0 ++ (if 0 < i % pw then [i - 1] else []) = L := ⟨_, rfl⟩
  obtain ⟨L2, hL2⟩ : ∃ L, L1 ++ (if i % pw + 1 < pw then [i + 1] else []) = L := ⟨_, rfl⟩
  obtain ⟨L3, hL3⟩ : ∃ L, L2 ++ (if pw ≤ i then [i - pw] else []) = L := ⟨_, rfl⟩
  obtain ⟨L4, hL4⟩ : ∃ L, L3 ++ (if i < pw * (ph - 1) then [i + pw] else []) = L := ⟨_, rfl⟩
  have hlen : L0.length = 0 ∧ L1.length ≤ 1 ∧ L2.length ≤ 2 ∧ L3.length ≤ 3 := by
    subst hL0 hL1 hL2 hL3
    simp only [List.length_append, List.length_nil]
    refine ⟨trivial, ?_, ?_, ?_⟩ <;> (repeat' split) <;> simp
  obtain ⟨l0, l1, l2, l3⟩ := hlen
  have hall : L4 = nbrL pw ph i := by subst hL0 hL1 hL2 hL3 hL4; simp [nbrL]
  have hL1H := Lib.hid hL1
  have hL2H := Lib.hid hL2
  have hL3H := Lib.hid hL3
  have hL4H := Lib.hid hL4
  rw [← hall]
  have z0 : L0.length ≤ 0 := by omega
  have hNS0 : ∀ W, Blk W w.heap.size 24 #[.int .i64 pw, .int .i64 ph, .slice a n c] → Below w.heap.size w W → NS #[.int .i64 pw, .int .i64 ph, .slice a n c] w L0 (.slice none 0 0) W := fun W hk hb => by subst hL0; exact ⟨World.ownsRow_nil _ _ _ _, hk, hb⟩
  clear hL0 hL1 hL2 hL3 hL4 hall l0
  have hB0 : Below w.heap.size w (w.alloc (.cells #[.int .i64 pw, .int .i64 ph, .slice a n c] 24)) := below_al (Below.refl _ _) _
  have k2 := Blk.new w 24 #[.int .i64 pw, .int .i64 ph, .slice a n c]
  have m1 : ((ph - 1 : Nat) : Int) = (ph : Int) - 1 := by omega
  have p1 : (pw : Int) * ((ph : Int) - 1) = ((pw * (ph - 1) : Nat) : Int) := by rw [Int.natCast_mul, m1]
  obtain ⟨p5, p6⟩ := mul_small (a := (pw : Int)) (b := ((ph : Int) - 1)) (m := 16) (n := 16) (by omega) (by omega) (by omega) (by omega)
  have x1 : (i : Int) % (pw : Int) = ((i % pw : Nat) : Int) := by simp
  have hm := Nat.mod_lt i (show 0 < pw by omega)
  have hmi := Nat.mod_le i pw
  have hpw0 : pw ≠ 0 := by omega
  have c1H : Hid (decide (0 < (i : Int) % (pw : Int)) = decide (0 < i % pw)) := Lib.hid (by rw [x1]; congr 1; exact propext ⟨fun h => by omega, fun h => by omega⟩)
  have c2H : Hid (decide ((i : Int) % (pw : Int) < (pw : Int) - 1) = decide (i % pw + 1 < pw)) := Lib.hid (by rw [x1]; congr 1; exact propext ⟨fun h => by omega, fun h => by omega⟩)
  have c3H : Hid (decide ((pw : Int) ≤ (i : Int)) = decide (pw ≤ i)) := Lib.hid (by congr 1; exact propext ⟨fun h => by omega, fun h => by omega⟩)
  have c4H : Hid (decide ((i : Int) < (pw : Int) * ((ph : Int) - 1)) = decide (i < pw * (ph - 1))) := Lib.hid (by rw [p1]; congr 1; exact propext ⟨fun h => by omega, fun h => by omega⟩)
  have hNS := hNS0 _ k2 hB0
  clear hNS0 p1 m1 x1 hB0
  obtain ⟨W, hW⟩ : ∃ W, w.alloc (.cells #[.int .i64 pw, .int .i64 ph, .slice a n c] 24) = W := ⟨_, rfl⟩
  rw [hW] at hNS k2
  have m0 := k2.cell (i := 0) rfl
  have m1 := k2.cell (i := 1) rfl
  have m2 := k2.cell (i := 2) rfl
  go_enter Try.func63, Try.ntmps63
  go_upto_if 10 with fail
  clear hW m0 m1 m2 k2
  go_cut [5] (fun s5 wx => ∃ v, v = s5 ∧ NS #[.int .i64 pw, .int .i64 ph, .slice a n c] w L1 v wx)
  case first =>
    have k2' := hNS.k
    have m0 := k2'.cell (i := 0) rfl
    have m1 := k2'.cell (i := 1) rfl
    have m2 := k2'.cell (i := 2) rfl
    by_cases hc : 0 < i % pw
    · have e : decide (0 < (i : Int) % (pw : Int)) = true := by rw [c1H.out]; exact decide_eq_true hc
      have e' := of_decide_eq_true e
      go_wp2_with (at_builtin; refine wpList_append_own _ rfl _ _ 22 rfl w.heap.size 3 i0 (.int .i64 0) 1 8 Try.underlying22 hi0 hz0 hz1 hz2 rfl (by decide) _ (L0).length _ rfl (hNS.own.alloc (.cells #[.int .i64 ((i : Int) - 1)] 3)) ⟨W.heap.size, 0, none⟩ 1 1 [.int .i64 ((i : Int) - 1)] rfl rfl (cell_one_new _ _ _) (by simp [Value.oneCell']) (by unfold maxLen; omega) (by omega) (below_al hNS.bel _).size ?_; intro v' w4 hown' hgrow hnil)
      have hn := hNS.app (x := i - 1) (by omega) hown' hgrow
      go_wp2_with fail
      go_meet
      rw [← hL1H.out, if_pos hc]
      exact ⟨_, rfl, hn⟩
    · have e : decide (0 < (i : Int) % (pw : Int)) = false := by rw [c1H.out]; exact decide_eq_false hc
      have e' := of_decide_eq_false e
      go_wp2_with fail
      go_meet
      rw [← hL1H.out, if_neg hc, List.append_nil]
      exact ⟨_, rfl, hNS⟩
  case rest =>
  clear hNS
  obtain ⟨s5, rfl, hs⟩ := hcut
  have k2' := hs.k
  have m0 := k2'.cell (i := 0) rfl
  have m1 := k2'.cell (i := 1) rfl
  have m2 := k2'.cell (i := 2) rfl
  clear k2'
  go_wp2_with fail
  clear m0 m1 m2
  have hSd : NS #[.int .i64 pw, .int .i64 ph, .slice a n c] w L1 s5 wc.drew := ⟨row_below hs.own (Below.refl _ _).drew, hs.k.below (Below.refl _ _).drew hs.k.lt, hs.bel.trans ((Below.refl _ _).drew.mono hs.bel.size)⟩
  refine plain_region (fun W' => NS #[.int .i64 pw, .int .i64 ph, .slice a n c] w L1 s5 W') 8 8 (by kernel_rfl) rfl ?_
  simp only [Array.replicate_succ, Array.replicate_zero, List.push_toArray, List.nil_append, List.cons_append]
  refine take_op 0 (v := ?uv0) rfl (by kernel_rfl) (fun _ _ _ h => h) (by rfl) hSd (fun w' hS' => ?uy0) ?uz0
  case uy0 =>
    go_simp
    rfl
  simp only [List.setIfInBounds_toArray, List.set_cons_zero, List.set_cons_succ]
  refine take_op 1 (v := ?uv1) rfl (by kernel_rfl) (fun _ _ _ h => h) (by rfl) hSd (fun w' hS' => ?uy1) ?uz1
  case uy1 =>
    go_simp
    rfl
  simp only [List.setIfInBounds_toArray, List.set_cons_zero, List.set_cons_succ]
  refine take_op 2 (v := ?uv2) rfl (by kernel_rfl) (fun _ _ _ h => h) (by rfl) hSd (fun w' hS' => ?uy2) ?uz2
  case uy2 =>
    have m0' := hS'.k.cell (i := 0) rfl
    go_simp
    rfl
  simp only [List.setIfInBounds_toArray, List.set_cons_zero, List.set_cons_succ]
  refine take_op 3 (v := ?uv3) rfl (by kernel_rfl) (fun _ _ _ h => h) (by rfl) hSd (fun w' hS' => ?uy3) ?uz3
  case uy3 =>
    go_simp
    try go_ints
    rfl
  simp only [List.setIfInBounds_toArray, List.set_cons_zero, List.set_cons_succ]
  refine take_op 4 (v := ?uv4) rfl (by kernel_rfl) (fun _ _ _ h => h) (by rfl) hSd (fun w' hS' => ?uy4) ?uz4
  case uy4 =>
    go_simp
    rfl
  simp only [List.setIfInBounds_toArray, List.set_cons_zero, List.set_cons_succ]
  refine take_op 5 (v := ?uv5) rfl (by kernel_rfl) (fun _ _ _ h => h) (by rfl) hSd (fun w' hS' => ?uy5) ?uz5
  case uy5 =>
    have m0' := hS'.k.cell (i := 0) rfl
    go_simp
    rfl
  simp only [List.setIfInBounds_toArray, List.set_cons_zero, List.set_cons_succ]
  refine take_op 6 (v := ?uv6) rfl (by kernel_rfl) (fun _ _ _ h => h) (by rfl) hSd (fun w' hS' => ?uy6) ?uz6
  case uy6 =>
    go_simp
    try go_ints
    rfl
  simp only [List.setIfInBounds_toArray, List.set_cons_zero, List.set_cons_succ]
  refine take_op 7 (v := ?uv7) rfl (by kernel_rfl) (fun _ _ _ h => h) (by rfl) hSd (fun w' hS' => ?uy7) ?uz7
  case uy7 =>
    go_simp
    try go_ints
    rfl
  simp only [List.setIfInBounds_toArray, List.set_cons_zero, List.set_cons_succ]
  refine done_ops (by kernel_rfl) ?_
  go_upto_if 23 with fail
  obtain ⟨wd, hwd⟩ : ∃ X, wc.drew = X := ⟨_, rfl⟩
  rw [hwd] at hSd ⊢
  clear hs hwd
  have hs := hSd
  clear hSd
  go_cut [5] (fun s5 wx => ∃ v, v = s5 ∧ NS #[.int .i64 pw, .int .i64 ph, .slice a n c] w L2 v wx)
  case first =>
    have k2' := hs.k
    have m0 := k2'.cell (i := 0) rfl
    have m1 := k2'.cell (i := 1) rfl
    have m2 := k2'.cell (i := 2) rfl
    by_cases hc : i % pw + 1 < pw
    · have e : decide ((i : Int) % (pw : Int) < (pw : Int) - 1) = true := by rw [c2H.out]; exact decide_eq_true hc
      have e' := of_decide_eq_true e
      go_wp2_with (at_builtin; refine wpList_append_own _ rfl _ _ 22 rfl w.heap.size 3 i0 (.int .i64 0) 1 8 Try.underlying22 hi0 hz0 hz1 hz2 rfl (by decide) _ (L1).length _ rfl (hs.own.alloc (.cells #[.int .i64 ((i : Int) + 1)] 3)) ⟨wd.heap.size, 0, none⟩ 1 1 [.int .i64 ((i : Int) + 1)] rfl rfl (cell_one_new _ _ _) (by simp [Value.oneCell']) (by unfold maxLen; omega) (by omega) (below_al hs.bel _).size ?_; intro v' w4 hown' hgrow hnil)
      have hn := hs.app (x := i + 1) (by omega) hown' hgrow
      go_wp2_with fail
      go_meet
      rw [← hL2H.out, if_pos hc]
      exact ⟨_, rfl, hn⟩
    · have e : decide ((i : Int) % (pw : Int) < (pw : Int) - 1) = false := by rw [c2H.out]; exact decide_eq_false hc
      have e' := of_decide_eq_false e
      go_wp2_with fail
      go_meet
      rw [← hL2H.out, if_neg hc, List.append_nil]
      exact ⟨_, rfl, hs⟩
  case rest =>
  clear hs
  obtain ⟨s5, rfl, hs⟩ := hcut
  have k2' := hs.k
  have m0 := k2'.cell (i := 0) rfl
  have m1 := k2'.cell (i := 1) rfl
  have m2 := k2'.cell (i := 2) rfl
  clear k2'
  go_upto_if 32 with fail
  clear m0 m1 m2
  go_cut [5] (fun s5 wx => ∃ v, v = s5 ∧ NS #[.int .i64 pw, .int .i64 ph, .slice a n c] w L3 v wx)
  case first =>
    have k2' := hs.k
    have m0 := k2'.cell (i := 0) rfl
    have m1 := k2'.cell (i := 1) rfl
    have m2 := k2'.cell (i := 2) rfl
    by_cases hc : pw ≤ i
    · have e : decide ((pw : Int) ≤ (i : Int)) = true := by rw [c3H.out]; exact decide_eq_true hc
      have e' := of_decide_eq_true e
      go_wp2_with (at_builtin; refine wpList_append_own _ rfl _ _ 22 rfl w.heap.size 3 i0 (.int .i64 0) 1 8 Try.underlying22 hi0 hz0 hz1 hz2 rfl (by decide) _ (L2).length _ rfl (hs.own.alloc (.cells #[.int .i64 ((i : Int) - (pw : Int))] 3)) ⟨wc.heap.size, 0, none⟩ 1 1 [.int .i64 ((i : Int) - (pw : Int))] rfl rfl (cell_one_new _ _ _) (by simp [Value.oneCell']) (by unfold maxLen; omega) (by omega) (below_al hs.bel _).size ?_; intro v' w4 hown' hgrow hnil)
      have hn := hs.app (x := i - pw) (by omega) hown' hgrow
      go_wp2_with fail
      go_meet
      rw [← hL3H.out, if_pos hc]
      exact ⟨_, rfl, hn⟩
    · have e : decide ((pw : Int) ≤ (i : Int)) = false := by rw [c3H.out]; exact decide_eq_false hc
      have e' := of_decide_eq_false e
      go_wp2_with fail
      go_meet
      rw [← hL3H.out, if_neg hc, List.append_nil]
      exact ⟨_, rfl, hs⟩
  case rest =>
  clear hs
  obtain ⟨s5, rfl, hs⟩ := hcut
  have k2' := hs.k
  have m0 := k2'.cell (i := 0) rfl
  have m1 := k2'.cell (i := 1) rfl
  have m2 := k2'.cell (i := 2) rfl
  clear k2'
  go_upto_if 47 with fail
  clear m0 m1 m2
  obtain ⟨q, hq⟩ : ∃ q, (pw : Int) * ((ph : Int) - 1) = q := ⟨_, rfl⟩
  rw [hq] at p5 p6 c4H ⊢
  clear hq
  go_cut [5] (fun s5 wx => ∃ v, v = s5 ∧ NS #[.int .i64 pw, .int .i64 ph, .slice a n c] w L4 v wx)
  case first =>
    have k2' := hs.k
    have m0 := k2'.cell (i := 0) rfl
    have m1 := k2'.cell (i := 1) rfl
    have m2 := k2'.cell (i := 2) rfl
    by_cases hc : i < pw * (ph - 1)
    · have e : decide ((i : Int) < q) = true := by rw [c4H.out]; exact decide_eq_true hc
      have e' := of_decide_eq_true e
      go_wp2_with (at_builtin; refine wpList_append_own _ rfl _ _ 22 rfl w.heap.size 3 i0 (.int .i64 0) 1 8 Try.underlying22 hi0 hz0 hz1 hz2 rfl (by decide) _ (L3).length _ rfl (hs.own.alloc (.cells #[.int .i64 ((i : Int) + (pw : Int))] 3)) ⟨wc.heap.size, 0, none⟩ 1 1 [.int .i64 ((i : Int) + (pw : Int))] rfl rfl (cell_one_new _ _ _) (by simp [Value.oneCell']) (by unfold maxLen; omega) (by omega) (below_al hs.bel _).size ?_; intro v' w4 hown' hgrow hnil)
      have hn := hs.app (x := i + pw) (by omega) hown' hgrow
      go_wp2_with fail
      go_meet
      rw [← hL4H.out, if_pos hc]
      exact ⟨_, rfl, hn⟩
    · have e : decide ((i : Int) < q) = false := by rw [c4H.out]; exact decide_eq_false hc
      have e' := of_decide_eq_false e
      go_wp2_with fail
      go_meet
      rw [← hL4H.out, if_neg hc, List.append_nil]
      exact ⟨_, rfl, hs⟩
  case rest =>
  clear hs
  obtain ⟨s5, rfl, hs⟩ := hcut
  have k2' := hs.k
  have m0 := k2'.cell (i := 0) rfl
  have m1 := k2'.cell (i := 1) rfl
  have m2 := k2'.cell (i := 2) rfl
  clear k2'
  obtain ⟨va, vc, rfl⟩ := row_slice hs.own
  go_wp2_with fail
  go_ret
  exact ⟨⟨va, vc, rfl, hs.own⟩, hs.bel⟩

end Go.Proofs.Ytjglfeonoiljlaa
namespace Go.Proofs.Ytjglfeonoiljlaa
open Go Go.RowKit Go.Shelf
set_option linter.unusedVariables false
set_option linter.unusedSimpArgs false

theorem any_congr' {l : List Nat} {p q : Nat → Bool} (h : ∀ j, j ∈ l → p j = q j) : l.any p = l.any q := by
  induction l with
  | nil => rfl
  | cons x r ih => simp only [List.any_cons, h x List.mem_cons_self, ih fun j hj => h j (List.mem_cons_of_mem _ hj)]
/-- An entry of a row of indexes. -/
theorem rowN_at {W : World} {B : Nat} {va : Option Addr} {vc : Nat} {L : List Nat} (h : W.ownsRow B 3 1 (.slice va L.length vc) L.length (L.map fun k : Nat => Value.int .i64 (k : Int))) {q j : Nat} (hj : L[q]? = some j) :
    ∃ b o, va = some ⟨b, o, none⟩ ∧ b < W.heap.size ∧ W.cell? ⟨b, o + q, none⟩ = some (.int .i64 (j : Int)) := by
  have hlt := (List.getElem?_eq_some_iff.1 hj).1
  have h2 : W.ownsRow B 3 1 (.slice va L.length vc) L.length ((L.map fun k : Nat => (k : Int)).map (Value.int .i64)) := by
    rw [List.map_map]; exact h
  obtain ⟨b, o, e1, e2, e3⟩ := rd_at (row_rd' (by simp) h2) (by simp) (show 0 < L.length by omega)
  refine ⟨b, o, e1, e2, ?_⟩
  rw [e3 q hlt, px_nat, List.getElem?_map, hj]
  rfl

set_option maxRecDepth 100000 in
set_option maxHeartbeats 16000000 in
theorem law_nearest (iw ih : Int) (a : Option Addr) (c n : Nat) (xs : List Int) (hn : Hid (xs.length = n)) (w : World) (hm : n ≤ 9223372036854775807) (hr : Rd w.heap.size w a xs) :
    Calls Try.prog 9 #[imv iw ih a n c] w fun e w' => e = .returned (.bool true) ∧ Below w.heap.size w w' := by
  obtain ⟨zv, hzv0⟩ : ∃ v, vld iw ih xs = v := ⟨_, rfl⟩
  have hzv := Lib.hid hzv0
  clear hzv0
  cases zv with
  | false =>
    have hSD := Lib.hid (show distS iw ih xs = { w := 0, h := 0, px := [], err := 20 } by unfold distS; rw [if_neg (by rw [hzv.out]; decide)]; rfl)
    have hlD := Lib.hid (show ([] : List Int).length = 0 from rfl)
    have hB : Below w.heap.size w (w.alloc (.cells #[.int .i64 iw, .int .i64 ih, .slice a n c] 24)) := below_al (Below.refl _ _) _
    have ka := (Blk.new w 24 #[.int .i64 iw, .int .i64 ih, .slice a n c])
    obtain ⟨W0, hW⟩ : ∃ W, (w.alloc (.cells #[.int .i64 iw, .int .i64 ih, .slice a n c] 24)) = W := ⟨_, rfl⟩
    rw [hW] at hB ka
    have m0 := ka.cell (i := 0) rfl
    have m1 := ka.cell (i := 1) rfl
    have m2 := ka.cell (i := 2) rfl
    go_enter Try.func9, Try.ntmps9
    go_wp2_with fail
    clear hW
    refine (alive_any _).mono ?_
    rintro e V1 ⟨rfl, hb⟩
    clear m0 m1 m2
    replace ka := ka.below hb ka.lt
    replace hB := hB.trans (hb.mono hB.size)
    have m0 := ka.cell (i := 0) rfl
    have m1 := ka.cell (i := 1) rfl
    have m2 := ka.cell (i := 2) rfl
    clear hb
    go_wp2_with fail
    have hcall := Distance_any iw ih a c n xs hn _ (by omega) ((hr.below (Nat.le_refl _) hB).mono hB.size)
    rw [hSD.out] at hcall
    refine hcall.mono ?_
    clear hcall
    rintro e V2 ⟨⟨v, hev, sl, hvl, hrow⟩, hb⟩
    have rD : V2.ownsRow w.heap.size 3 1 sl 0 ((([] : List Int)).map (Value.int .i64)) := row_base (row_len (k := (([] : List Int)).length) hlD.out hrow) hB.size
    obtain ⟨srDa, srDc, rfl⟩ := row_slice rD
    have he : e = .returned (.tuple #[.agg #[.int .i64 0, .int .i64 0, .slice srDa 0 srDc], .int .i64 20]) := by rw [hev, hvl]
    subst he
    clear hrow hev hvl
    clear m0 m1 m2
    replace ka := ka.below hb ka.lt
    replace hB := hB.trans (hb.mono hB.size)
    have m0 := ka.cell (i := 0) rfl
    have m1 := ka.cell (i := 1) rfl
    have m2 := ka.cell (i := 2) rfl
    clear hb
    obtain ⟨V3, hW⟩ : ∃ V3, V2.alloc (.cells #[.int .i64 0, .int .i64 0, .slice srDa 0 srDc] 24) = V3 := ⟨_, rfl⟩
    obtain ⟨bkD, hbx⟩ : ∃ bkD, V2.heap.size = bkD := ⟨_, rfl⟩
    have kD := Blk.new V2 24 #[.int .i64 0, .int .i64 0, .slice srDa 0 srDc]
    rw [hW, hbx] at kD
    have hb : Below V2.heap.size V2 V3 := alloc_below hW
    have ka' := ka.below hb ka.lt
    have lkakD := ka.lt
    rw [hbx] at lkakD
    have m0' := ka'.cell (i := 0) rfl
    have m1' := ka'.cell (i := 1) rfl
    have m2' := ka'.cell (i := 2) rfl
    have xd0 := kD.cell (i := 0) rfl
    have xd1 := kD.cell (i := 1) rfl
    have xd2 := kD.cell (i := 2) rfl
    have fxd0 := kD.frozen 0
    have fxd1 := kD.frozen 1
    have fxd2 := kD.frozen 2
    go_wp2_with fail
    clear hW
    clear hbx
    clear m0 m1 m2
    clear m0' m1' m2'
    replace ka := ka'
    clear ka'
    have m0 := ka.cell (i := 0) rfl
    have m1 := ka.cell (i := 1) rfl
    have m2 := ka.cell (i := 2) rfl
    replace rD := row_below rD hb
    replace hB := hB.trans (hb.mono hB.size)
    clear hb
    refine (Valid_any iw ih a c xs n hn _ (by omega) ((hr.below (Nat.le_refl _) hB).mono hB.size)).mono ?_
    rintro e V8 ⟨rfl, hb⟩
    rw [hzv.out]
    clear m0 m1 m2 xd0 xd1 xd2 fxd0 fxd1 fxd2
    replace ka := ka.below hb ka.lt
    replace kD := kD.below hb kD.lt
    replace rD := row_below rD hb
    replace hB := hB.trans (hb.mono hB.size)
    have m0 := ka.cell (i := 0) rfl
    have m1 := ka.cell (i := 1) rfl
    have m2 := ka.cell (i := 2) rfl
    have xd0 := kD.cell (i := 0) rfl
    have xd1 := kD.cell (i := 1) rfl
    have xd2 := kD.cell (i := 2) rfl
    have fxd0 := kD.frozen 0
    have fxd1 := kD.frozen 1
    have fxd2 := kD.frozen 2
    clear hb
    go_wp2_with fail
    go_ret
    exact ⟨rfl, hB⟩
  | true =>
    obtain ⟨⟨i1, i2⟩, ⟨i3, i4⟩, hl, ha⟩ := vld_true hzv.out
    obtain ⟨pw, rfl⟩ : ∃ pw : Nat, iw = (pw : Int) := ⟨iw.toNat, by omega⟩
    obtain ⟨ph, rfl⟩ : ∃ ph : Nat, ih = (ph : Int) := ⟨ih.toNat, by omega⟩
    have hN : pw * ph = n := by
      have h2 : ((pw * ph : Nat) : Int) = (pw : Int) * ph := by simp
      have := hn.out
      omega
    have hn0 : 0 < n := by rw [← hN]; exact Nat.mul_pos (by omega) (by omega)
    have hn256 : n ≤ 256 := by rw [← hN]; exact Nat.mul_le_mul (show pw ≤ 16 by omega) (show ph ≤ 16 by omega)
    have hSD := Lib.hid (show distS pw ph xs = { w := pw, h := ph, px := img pw ph (distG pw ph xs), err := 0 } by unfold distS; rw [if_pos hzv.out]; rfl)
    have hD : ∀ k, k < n → px (img pw ph (distG pw ph xs)) k = nearest pw ph (isZ xs) k := fun k hk => by
      rw [← distG_img xs (by omega) (by omega) (by omega)]
      exact px_map_range _ (by rw [hN]; exact hk)
    have hlD := Lib.hid (show (img pw ph (distG pw ph xs)).length = n from (img_length _ _ _).trans hN)
    have hpos := Lib.hid (fun k : Nat => show 0 ≤ px (img pw ph (distG pw ph xs)) k by
      by_cases hk : k < n
      · rw [hD k hk]; exact nearest_pos k
      · rw [px_out (by rw [hlD.out]; omega)]; exact Int.le_refl _)
    have hcase0 := Lib.hid (fun hz : anyTo (isZ xs) n = false => fun (k : Nat) (hk : k < n) => show px (img pw ph (distG pw ph xs)) k = (pw : Int) + ph by
      rw [hD k hk]
      refine nearest_none (fun j hj => ?_) k
      cases hzj : isZ xs j with
      | false => rfl
      | true => rw [anyTo_iff.2 ⟨j, by rw [← hN]; exact hj, hzj⟩] at hz; cases hz)
    have hcase1 := Lib.hid (fun hz : anyTo (isZ xs) n = true => show
        (∀ k : Nat, k < n → (px (img pw ph (distG pw ph xs)) k = 0 ↔ px xs k = 0)) ∧
        (∀ k : Nat, k < n → ∀ j : Nat, j ∈ nbrL pw ph k → j < n ∧ px (img pw ph (distG pw ph xs)) k - px (img pw ph (distG pw ph xs)) j ≤ 1 ∧ -1 ≤ px (img pw ph (distG pw ph xs)) k - px (img pw ph (distG pw ph xs)) j) ∧
        (∀ k : Nat, k < n → nearerTo (fun i => px (img pw ph (distG pw ph xs)) i) k (nbrL pw ph k) (nbrL pw ph k).length = true) by
      have hz' : ∃ k, k < pw * ph ∧ isZ xs k = true := by rw [hN]; exact anyTo_iff.1 hz
      refine ⟨fun k hk => ?_, fun k hk j hj => ?_, fun k hk => ?_⟩
      · rw [hD k hk, nearest_zero_iff (by rw [hN]; exact hk) hz']
        unfold isZ
        exact decide_eq_true_iff
      · have hjn := (nbrL_near (by rw [hN]; exact hk) hj).1
        rw [hN] at hjn
        rw [hD k hk, hD j hjn]
        exact ⟨hjn, nearest_nbr (by rw [hN]; exact hk) hj⟩
      · have h := nearerTo_all (z := isZ xs) (show k < pw * ph by rw [hN]; exact hk) hz'
        rw [← h]
        unfold nearerTo
        simp only [hD k hk]
        congr 1
        refine any_congr' fun j hj => ?_
        have hjn := (nbrL_near (by rw [hN]; exact hk) (List.mem_of_mem_take hj)).1
        rw [hN] at hjn
        simp only [hD j hjn])
    have hZ0 := Lib.hid (show anyTo (isZ xs) 0 = false from rfl)
    have hZs := Lib.hid (fun k : Nat => show anyTo (isZ xs) (k + 1) = (anyTo (isZ xs) k || decide (px xs k = 0)) from rfl)
    have hNH := Lib.hid hN
    obtain ⟨ba, oa, hae, hba, hca⟩ := rd_at hr hn.out hn0
    have hcaH := Lib.hid hca
    clear hca hl ha hN hD
    generalize anyTo (isZ xs) = Z at *
    generalize img pw ph (distG pw ph xs) = D at *
    subst hae
    have hB : Below w.heap.size w (w.alloc (.cells #[.int .i64 pw, .int .i64 ph, .slice (some ⟨ba, oa, none⟩) n c] 24)) := below_al (Below.refl _ _) _
    have ka := (Blk.new w 24 #[.int .i64 pw, .int .i64 ph, .slice (some ⟨ba, oa, none⟩) n c])
    obtain ⟨W0, hW⟩ : ∃ W, (w.alloc (.cells #[.int .i64 pw, .int .i64 ph, .slice (some ⟨ba, oa, none⟩) n c] 24)) = W := ⟨_, rfl⟩
    rw [hW] at hB ka
    have m0 := ka.cell (i := 0) rfl
    have m1 := ka.cell (i := 1) rfl
    have m2 := ka.cell (i := 2) rfl
    go_enter Try.func9, Try.ntmps9
    go_wp2_with fail
    clear hW
    refine (alive_any _).mono ?_
    rintro e V1 ⟨rfl, hb⟩
    clear m0 m1 m2
    replace ka := ka.below hb ka.lt
    replace hB := hB.trans (hb.mono hB.size)
    have m0 := ka.cell (i := 0) rfl
    have m1 := ka.cell (i := 1) rfl
    have m2 := ka.cell (i := 2) rfl
    clear hb
    go_wp2_with fail
    have hcall := Distance_any pw ph (some ⟨ba, oa, none⟩) c n xs hn _ (by omega) ((hr.below (Nat.le_refl _) hB).mono hB.size)
    rw [hSD.out] at hcall
    refine hcall.mono ?_
    clear hcall
    rintro e V2 ⟨⟨v, hev, sl, hvl, hrow⟩, hb⟩
    have rD : V2.ownsRow w.heap.size 3 1 sl n ((D).map (Value.int .i64)) := row_base (row_len (k := (D).length) hlD.out hrow) hB.size
    obtain ⟨srDa, srDc, rfl⟩ := row_slice rD
    have he : e = .returned (.tuple #[.agg #[.int .i64 pw, .int .i64 ph, .slice srDa n srDc], .int .i64 0]) := by rw [hev, hvl]
    subst he
    clear hrow hev hvl
    clear m0 m1 m2
    replace ka := ka.below hb ka.lt
    replace hB := hB.trans (hb.mono hB.size)
    have m0 := ka.cell (i := 0) rfl
    have m1 := ka.cell (i := 1) rfl
    have m2 := ka.cell (i := 2) rfl
    clear hb
    obtain ⟨V3, hW⟩ : ∃ V3, V2.alloc (.cells #[.int .i64 pw, .int .i64 ph, .slice srDa n srDc] 24) = V3 := ⟨_, rfl⟩
    obtain ⟨bkD, hbx⟩ : ∃ bkD, V2.heap.size = bkD := ⟨_, rfl⟩
    have kD := Blk.new V2 24 #[.int .i64 pw, .int .i64 ph, .slice srDa n srDc]
    rw [hW, hbx] at kD
    have hb : Below V2.heap.size V2 V3 := alloc_below hW
    have ka' := ka.below hb ka.lt
    have lkakD := ka.lt
    rw [hbx] at lkakD
    have m0' := ka'.cell (i := 0) rfl
    have m1' := ka'.cell (i := 1) rfl
    have m2' := ka'.cell (i := 2) rfl
    have xd0 := kD.cell (i := 0) rfl
    have xd1 := kD.cell (i := 1) rfl
    have xd2 := kD.cell (i := 2) rfl
    have fxd0 := kD.frozen 0
    have fxd1 := kD.frozen 1
    have fxd2 := kD.frozen 2
    go_wp2_with fail
    clear hW
    clear hbx
    clear m0 m1 m2
    clear m0' m1' m2'
    replace ka := ka'
    clear ka'
    have m0 := ka.cell (i := 0) rfl
    have m1 := ka.cell (i := 1) rfl
    have m2 := ka.cell (i := 2) rfl
    replace rD := row_below rD hb
    replace hB := hB.trans (hb.mono hB.size)
    clear hb
    refine (Valid_any pw ph (some ⟨ba, oa, none⟩) c xs n hn _ (by omega) ((hr.below (Nat.le_refl _) hB).mono hB.size)).mono ?_
    rintro e V8 ⟨rfl, hb⟩
    rw [hzv.out]
    clear m0 m1 m2 xd0 xd1 xd2 fxd0 fxd1 fxd2
    replace ka := ka.below hb ka.lt
    replace kD := kD.below hb kD.lt
    replace rD := row_below rD hb
    replace hB := hB.trans (hb.mono hB.size)
    have m0 := ka.cell (i := 0) rfl
    have m1 := ka.cell (i := 1) rfl
    have m2 := ka.cell (i := 2) rfl
    have xd0 := kD.cell (i := 0) rfl
    have xd1 := kD.cell (i := 1) rfl
    have xd2 := kD.cell (i := 2) rfl
    have fxd0 := kD.frozen 0
    have fxd1 := kD.frozen 1
    have fxd2 := kD.frozen 2
    clear hb
    go_wp2_with fail
    clear m0 m1 m2 xd0 xd1 xd2 fxd0 fxd1 fxd2
    obtain ⟨bD, oD, hDa, hbD, hcD⟩ := rd_at (row_rd' hlD.out rD) hlD.out hn0
    subst hDa
    have hcDH := Lib.hid hcD
    clear hcD
    go_loopw [6, 7] (fun z i wr => ∃ k : Nat, k ≤ n ∧ i = .int .i64 (k : Int) ∧ z = .bool (Z k) ∧ Below V8.heap.size V8 wr) (fun z i _ => n - (intOf i).toNat)
    case atStart => exact ⟨0, Nat.zero_le _, rfl, by rw [hZ0.out], Below.refl _ _⟩
    case round =>
      obtain ⟨k, hkn, rfl, rfl, hBw⟩ := hrel
      have hBr : Below w.heap.size w wr := hB.trans (hBw.mono hB.size)
      have m2 := (ka.below hBw ka.lt).cell (i := 2) rfl
      by_cases hk : k < n
      · have hZk := hZs.out k
        obtain ⟨zk, hzk⟩ : ∃ b, Z k = b := ⟨_, rfl⟩
        rw [hzk] at hZk ⊢
        obtain ⟨pv, hpv⟩ : ∃ v, px xs (k : Int) = v := ⟨_, rfl⟩
        rw [hpv] at hZk
        have ca := (hBr.cell (p := ⟨ba, oa + k, none⟩) hba).trans (hcaH.out k hk)
        rw [hpv] at ca
        clear hzk hpv
        cases zk with
        | true =>
          have hZkH := Lib.hid hZk
          clear hZk
          go_wp2_with fail
          go_roundw
          case rel => exact ⟨k + 1, by omega, by go_num, by rw [hZkH.out]; rfl, hBw⟩
          case measure => simp [intOf]; omega
        | false =>
          by_cases h0 : pv = 0
          · have e1 : (pv == 0) = true := by rw [beq_iff_eq]; exact h0
            have hZkH := Lib.hid (show Z (k + 1) = true by rw [hZk, decide_eq_true h0]; rfl)
            clear hZk h0
            go_wp2_with fail
            go_roundw
            case rel => exact ⟨k + 1, by omega, by go_num, by rw [hZkH.out], hBw⟩
            case measure => simp [intOf]; omega
          · have e1 : (pv == 0) = false := by rw [beq_eq_false_iff_ne]; exact h0
            have hZkH := Lib.hid (show Z (k + 1) = false by rw [hZk, decide_eq_false h0]; rfl)
            clear hZk h0
            go_wp2_with fail
            go_roundw
            case rel => exact ⟨k + 1, by omega, by go_num, by rw [hZkH.out], hBw⟩
            case measure => simp [intOf]; omega
      · have hkk : n = k := by omega
        subst hkk
        have hBw1 := hBw
        clear hBr
        obtain ⟨zn, hzn⟩ : ∃ b, Z n = b := ⟨_, rfl⟩
        rw [hzn]
        cases zn with
        | false =>
          have hnone := Lib.hid (hcase0.out hzn)
          clear hzn
          go_wp2_with fail
          clear m2
          clear hBw
          go_loopw [8] (fun i wr => ∃ k : Nat, k ≤ n ∧ i = .int .i64 (k : Int) ∧ Below V8.heap.size V8 wr) (fun i _ => n - (intOf i).toNat)
          case atStart => exact ⟨0, Nat.zero_le _, rfl, hBw1⟩
          case round =>
            clear hBw1
            obtain ⟨k, hkn, rfl, hBw⟩ := hrel
            have hBr : Below w.heap.size w wr := hB.trans (hBw.mono hB.size)
            have ka' := ka.below hBw ka.lt
            have kD' := kD.below hBw kD.lt
            have m2 := ka'.cell (i := 2) rfl
            have hS : Below wr.heap.size wr wr.drew := (Below.refl _ _).drew
            by_cases hk : k < n
            · have hDv := Lib.hid (hnone.out k hk)
              go_wp2_with fail
              clear m2
              refine plain_region (fun W' => Below wr.heap.size wr W') 11 11 (by kernel_rfl) rfl ?_
              simp only [Array.replicate_succ, Array.replicate_zero, List.push_toArray, List.nil_append, List.cons_append]
              refine take_op 0 (v := ?uv0) rfl (by kernel_rfl) (fun _ _ _ h => h) (by rfl) hS (fun w' hS' => ?uy0) ?uz0
              case uy0 =>
                go_simp
                rfl
              simp only [List.setIfInBounds_toArray, List.set_cons_zero, List.set_cons_succ]
              refine take_op 1 (v := ?uv1) rfl (by kernel_rfl) (fun _ _ _ h => h) (by rfl) hS (fun w' hS' => ?uy1) ?uz1
              case uy1 =>
                have m0 := (ka'.below hS' ka'.lt).cell (i := 0) rfl
                have m1 := (ka'.below hS' ka'.lt).cell (i := 1) rfl
                have x2 := (kD'.below hS' kD'.lt).cell (i := 2) rfl
                have cd := ((hBw.trans (hS'.mono hBw.size)).cell (p := ⟨bD, oD + k, none⟩) hbD).trans (hcDH.out k hk)
                rw [hDv.out] at cd
                go_simp
                rfl
              simp only [List.setIfInBounds_toArray, List.set_cons_zero, List.set_cons_succ]
              refine take_op 2 (v := ?uv2) rfl (by kernel_rfl) (fun _ _ _ h => h) (by rfl) hS (fun w' hS' => ?uy2) ?uz2
              case uy2 =>
                go_simp
                rfl
              simp only [List.setIfInBounds_toArray, List.set_cons_zero, List.set_cons_succ]
              refine take_op 3 (v := ?uv3) rfl (by kernel_rfl) (fun _ _ _ h => h) (by rfl) hS (fun w' hS' => ?uy3) ?uz3
              case uy3 =>
                go_simp
                try go_ints
                first
                | rfl
                | rw [if_pos ⟨by omega, by omega⟩]
              simp only [List.setIfInBounds_toArray, List.set_cons_zero, List.set_cons_succ]
              refine take_op 4 (v := ?uv4) rfl (by kernel_rfl) (fun _ _ _ h => h) (by rfl) hS (fun w' hS' => ?uy4) ?uz4
              case uy4 =>
                have m0 := (ka'.below hS' ka'.lt).cell (i := 0) rfl
                have m1 := (ka'.below hS' ka'.lt).cell (i := 1) rfl
                have x2 := (kD'.below hS' kD'.lt).cell (i := 2) rfl
                have cd := ((hBw.trans (hS'.mono hBw.size)).cell (p := ⟨bD, oD + k, none⟩) hbD).trans (hcDH.out k hk)
                rw [hDv.out] at cd
                go_simp
                rfl
              simp only [List.setIfInBounds_toArray, List.set_cons_zero, List.set_cons_succ]
              refine take_op 5 (v := ?uv5) rfl (by kernel_rfl) (fun _ _ _ h => h) (by rfl) hS (fun w' hS' => ?uy5) ?uz5
              case uy5 =>
                go_simp
                rfl
              simp only [List.setIfInBounds_toArray, List.set_cons_zero, List.set_cons_succ]
              refine take_op 6 (v := ?uv6) rfl (by kernel_rfl) (fun _ _ _ h => h) (by rfl) hS (fun w' hS' => ?uy6) ?uz6
              case uy6 =>
                have m0 := (ka'.below hS' ka'.lt).cell (i := 0) rfl
                have m1 := (ka'.below hS' ka'.lt).cell (i := 1) rfl
                have x2 := (kD'.below hS' kD'.lt).cell (i := 2) rfl
                have cd := ((hBw.trans (hS'.mono hBw.size)).cell (p := ⟨bD, oD + k, none⟩) hbD).trans (hcDH.out k hk)
                rw [hDv.out] at cd
                go_simp
                rfl
              simp only [List.setIfInBounds_toArray, List.set_cons_zero, List.set_cons_succ]
              refine take_op 7 (v := ?uv7) rfl (by kernel_rfl) (fun _ _ _ h => h) (by rfl) hS (fun w' hS' => ?uy7) ?uz7
              case uy7 =>
                go_simp
                rfl
              simp only [List.setIfInBounds_toArray, List.set_cons_zero, List.set_cons_succ]
              refine take_op 8 (v := ?uv8) rfl (by kernel_rfl) (fun _ _ _ h => h) (by rfl) hS (fun w' hS' => ?uy8) ?uz8
              case uy8 =>
                have m0 := (ka'.below hS' ka'.lt).cell (i := 0) rfl
                have m1 := (ka'.below hS' ka'.lt).cell (i := 1) rfl
                have x2 := (kD'.below hS' kD'.lt).cell (i := 2) rfl
                have cd := ((hBw.trans (hS'.mono hBw.size)).cell (p := ⟨bD, oD + k, none⟩) hbD).trans (hcDH.out k hk)
                rw [hDv.out] at cd
                go_simp
                rfl
              simp only [List.setIfInBounds_toArray, List.set_cons_zero, List.set_cons_succ]
              refine take_op 9 (v := ?uv9) rfl (by kernel_rfl) (fun _ _ _ h => h) (by rfl) hS (fun w' hS' => ?uy9) ?uz9
              case uy9 =>
                go_simp
                try go_ints
                rfl
              simp only [List.setIfInBounds_toArray, List.set_cons_zero, List.set_cons_succ]
              refine take_op 10 (v := ?uv10) rfl (by kernel_rfl) (fun _ _ _ h => h) (by rfl) hS (fun w' hS' => ?uy10) ?uz10
              case uy10 =>
                go_simp
                try go_ints
                rfl
              simp only [List.setIfInBounds_toArray, List.set_cons_zero, List.set_cons_succ]
              refine done_ops (by kernel_rfl) ?_
              go_wp2_with fail
              go_roundw
              case rel => exact ⟨k + 1, by omega, by go_num, hBw.trans (hS.mono hBw.size)⟩
              case measure => simp [intOf]; omega
            · have hkk : n = k := by omega
              subst hkk
              go_wp2_with fail
              go_ret
              exact ⟨rfl, hBr⟩
        | true =>
          obtain ⟨hzero0, hnbr0, hfull0⟩ := hcase1.out hzn
          have hzero := Lib.hid hzero0
          have hnbr := Lib.hid hnbr0
          have hfull := Lib.hid hfull0
          clear hzn hzero0 hnbr0 hfull0
          go_wp2_with fail
          clear m2
          clear hBw
          go_loopw [8] (fun i wr => ∃ k : Nat, k ≤ n ∧ i = .int .i64 (k : Int) ∧ Below V8.heap.size V8 wr) (fun i _ => n - (intOf i).toNat)
          case atStart => exact ⟨0, Nat.zero_le _, rfl, hBw1⟩
          case round =>
            clear hBw1
            obtain ⟨k, hkn, rfl, hBw⟩ := hrel
            have hBr : Below w.heap.size w wr := hB.trans (hBw.mono hB.size)
            have ka' := ka.below hBw ka.lt
            have kD' := kD.below hBw kD.lt
            have m2 := ka'.cell (i := 2) rfl
            have hS : Below wr.heap.size wr wr.drew := (Below.refl _ _).drew
            by_cases hk : k < n
            · have hz0 := hzero.out k hk
              have hdp := hpos.out k
              obtain ⟨dv, hdv0⟩ : ∃ v, px D (k : Int) = v := ⟨_, rfl⟩
              obtain ⟨pv, hpv0⟩ : ∃ v, px xs (k : Int) = v := ⟨_, rfl⟩
              rw [hdv0] at hz0 hdp
              rw [hpv0] at hz0
              have hdv := Lib.hid hdv0
              have hpv := Lib.hid hpv0
              clear hdv0 hpv0
              by_cases hd0 : dv = 0
              · have e1 : (dv == 0) = true := by rw [beq_iff_eq]; exact hd0
                have e2 : (pv == 0) = true := by rw [beq_iff_eq]; exact hz0.1 hd0
                have e3 : decide (dv < 0) = false := decide_eq_false (by omega)
                have hd0H := Lib.hid (show decide (dv = 0) = true from decide_eq_true hd0)
                clear hd0 hz0
                go_wp2_with fail
                clear m2
                refine plain_region (fun W' => Below wr.heap.size wr W') 21 21 (by kernel_rfl) rfl ?_
                simp only [Array.replicate_succ, Array.replicate_zero, List.push_toArray, List.nil_append, List.cons_append]
                refine take_op 0 (v := ?sv0) rfl (by kernel_rfl) (fun _ _ _ h => h) (by rfl) hS (fun w' hS' => ?sy0) ?sz0
                case sy0 =>
                  go_simp
                  rfl
                simp only [List.setIfInBounds_toArray, List.set_cons_zero, List.set_cons_succ]
                refine take_op 1 (v := ?sv1) rfl (by kernel_rfl) (fun _ _ _ h => h) (by rfl) hS (fun w' hS' => ?sy1) ?sz1
                case sy1 =>
                  have m2 := (ka'.below hS' ka'.lt).cell (i := 2) rfl
                  have x2 := (kD'.below hS' kD'.lt).cell (i := 2) rfl
                  have cd := ((hBw.trans (hS'.mono hBw.size)).cell (p := ⟨bD, oD + k, none⟩) hbD).trans (hcDH.out k hk)
                  have ca := ((hBr.trans (hS'.mono hBr.size)).cell (p := ⟨ba, oa + k, none⟩) hba).trans (hcaH.out k hk)
                  rw [hdv.out] at cd
                  rw [hpv.out] at ca
                  go_simp
                  rfl
                simp only [List.setIfInBounds_toArray, List.set_cons_zero, List.set_cons_succ]
                refine take_op 2 (v := ?sv2) rfl (by kernel_rfl) (fun _ _ _ h => h) (by rfl) hS (fun w' hS' => ?sy2) ?sz2
                case sy2 =>
                  go_simp
                  rfl
                simp only [List.setIfInBounds_toArray, List.set_cons_zero, List.set_cons_succ]
                refine take_op 3 (v := ?sv3) rfl (by kernel_rfl) (fun _ _ _ h => h) (by rfl) hS (fun w' hS' => ?sy3) ?sz3
                case sy3 =>
                  go_simp
                  try go_ints
                  first
                  | rfl
                  | rw [if_pos ⟨by omega, by omega⟩]
                simp only [List.setIfInBounds_toArray, List.set_cons_zero, List.set_cons_succ]
                refine take_op 4 (v := ?sv4) rfl (by kernel_rfl) (fun _ _ _ h => h) (by rfl) hS (fun w' hS' => ?sy4) ?sz4
                case sy4 =>
                  have m2 := (ka'.below hS' ka'.lt).cell (i := 2) rfl
                  have x2 := (kD'.below hS' kD'.lt).cell (i := 2) rfl
                  have cd := ((hBw.trans (hS'.mono hBw.size)).cell (p := ⟨bD, oD + k, none⟩) hbD).trans (hcDH.out k hk)
                  have ca := ((hBr.trans (hS'.mono hBr.size)).cell (p := ⟨ba, oa + k, none⟩) hba).trans (hcaH.out k hk)
                  rw [hdv.out] at cd
                  rw [hpv.out] at ca
                  go_simp
                  rfl
                simp only [List.setIfInBounds_toArray, List.set_cons_zero, List.set_cons_succ]
                refine take_op 5 (v := .bool true) rfl (by kernel_rfl) (fun _ _ _ h => h) (by rfl) hS (fun w' hS' => ?sy5) ?sz5
                case sy5 =>
                  go_simp
                  try simp only [e1]
                  try rfl
                simp only [List.setIfInBounds_toArray, List.set_cons_zero, List.set_cons_succ]
                refine take_op 6 (v := ?sv6) rfl (by kernel_rfl) (fun _ _ _ h => h) (by rfl) hS (fun w' hS' => ?sy6) ?sz6
                case sy6 =>
                  go_simp
                  rfl
                simp only [List.setIfInBounds_toArray, List.set_cons_zero, List.set_cons_succ]
                refine take_op 7 (v := ?sv7) rfl (by kernel_rfl) (fun _ _ _ h => h) (by rfl) hS (fun w' hS' => ?sy7) ?sz7
                case sy7 =>
                  have m2 := (ka'.below hS' ka'.lt).cell (i := 2) rfl
                  have x2 := (kD'.below hS' kD'.lt).cell (i := 2) rfl
                  have cd := ((hBw.trans (hS'.mono hBw.size)).cell (p := ⟨bD, oD + k, none⟩) hbD).trans (hcDH.out k hk)
                  have ca := ((hBr.trans (hS'.mono hBr.size)).cell (p := ⟨ba, oa + k, none⟩) hba).trans (hcaH.out k hk)
                  rw [hdv.out] at cd
                  rw [hpv.out] at ca
                  go_simp
                  rfl
                simp only [List.setIfInBounds_toArray, List.set_cons_zero, List.set_cons_succ]
                refine take_op 8 (v := ?sv8) rfl (by kernel_rfl) (fun _ _ _ h => h) (by rfl) hS (fun w' hS' => ?sy8) ?sz8
                case sy8 =>
                  go_simp
                  rfl
                simp only [List.setIfInBounds_toArray, List.set_cons_zero, List.set_cons_succ]
                refine take_op 9 (v := ?sv9) rfl (by kernel_rfl) (fun _ _ _ h => h) (by rfl) hS (fun w' hS' => ?sy9) ?sz9
                case sy9 =>
                  go_simp
                  try go_ints
                  first
                  | rfl
                  | rw [if_pos ⟨by omega, by omega⟩]
                simp only [List.setIfInBounds_toArray, List.set_cons_zero, List.set_cons_succ]
                refine take_op 10 (v := ?sv10) rfl (by kernel_rfl) (fun _ _ _ h => h) (by rfl) hS (fun w' hS' => ?sy10) ?sz10
                case sy10 =>
                  have m2 := (ka'.below hS' ka'.lt).cell (i := 2) rfl
                  have x2 := (kD'.below hS' kD'.lt).cell (i := 2) rfl
                  have cd := ((hBw.trans (hS'.mono hBw.size)).cell (p := ⟨bD, oD + k, none⟩) hbD).trans (hcDH.out k hk)
                  have ca := ((hBr.trans (hS'.mono hBr.size)).cell (p := ⟨ba, oa + k, none⟩) hba).trans (hcaH.out k hk)
                  rw [hdv.out] at cd
                  rw [hpv.out] at ca
                  go_simp
                  rfl
                simp only [List.setIfInBounds_toArray, List.set_cons_zero, List.set_cons_succ]
                refine take_op 11 (v := .bool true) rfl (by kernel_rfl) (fun _ _ _ h => h) (by rfl) hS (fun w' hS' => ?sy11) ?sz11
                case sy11 =>
                  go_simp
                  try simp only [e2]
                  try rfl
                simp only [List.setIfInBounds_toArray, List.set_cons_zero, List.set_cons_succ]
                refine take_op 12 (v := .bool false) rfl (by kernel_rfl) (fun _ _ _ h => h) (by rfl) hS (fun w' hS' => ?sy12) ?sz12
                case sy12 =>
                  go_simp
                  try rfl
                simp only [List.setIfInBounds_toArray, List.set_cons_zero, List.set_cons_succ]
                refine take_op 13 (v := ?sv13) rfl (by kernel_rfl) (fun _ _ _ h => h) (by rfl) hS (fun w' hS' => ?sy13) ?sz13
                case sy13 =>
                  go_simp
                  rfl
                simp only [List.setIfInBounds_toArray, List.set_cons_zero, List.set_cons_succ]
                refine take_op 14 (v := ?sv14) rfl (by kernel_rfl) (fun _ _ _ h => h) (by rfl) hS (fun w' hS' => ?sy14) ?sz14
                case sy14 =>
                  go_simp
                  rfl
                simp only [List.setIfInBounds_toArray, List.set_cons_zero, List.set_cons_succ]
                refine take_op 15 (v := ?sv15) rfl (by kernel_rfl) (fun _ _ _ h => h) (by rfl) hS (fun w' hS' => ?sy15) ?sz15
                case sy15 =>
                  have m2 := (ka'.below hS' ka'.lt).cell (i := 2) rfl
                  have x2 := (kD'.below hS' kD'.lt).cell (i := 2) rfl
                  have cd := ((hBw.trans (hS'.mono hBw.size)).cell (p := ⟨bD, oD + k, none⟩) hbD).trans (hcDH.out k hk)
                  have ca := ((hBr.trans (hS'.mono hBr.size)).cell (p := ⟨ba, oa + k, none⟩) hba).trans (hcaH.out k hk)
                  rw [hdv.out] at cd
                  rw [hpv.out] at ca
                  go_simp
                  rfl
                simp only [List.setIfInBounds_toArray, List.set_cons_zero, List.set_cons_succ]
                refine take_op 16 (v := ?sv16) rfl (by kernel_rfl) (fun _ _ _ h => h) (by rfl) hS (fun w' hS' => ?sy16) ?sz16
                case sy16 =>
                  go_simp
                  rfl
                simp only [List.setIfInBounds_toArray, List.set_cons_zero, List.set_cons_succ]
                refine take_op 17 (v := ?sv17) rfl (by kernel_rfl) (fun _ _ _ h => h) (by rfl) hS (fun w' hS' => ?sy17) ?sz17
                case sy17 =>
                  go_simp
                  try go_ints
                  first
                  | rfl
                  | rw [if_pos ⟨by omega, by omega⟩]
                simp only [List.setIfInBounds_toArray, List.set_cons_zero, List.set_cons_succ]
                refine take_op 18 (v := ?sv18) rfl (by kernel_rfl) (fun _ _ _ h => h) (by rfl) hS (fun w' hS' => ?sy18) ?sz18
                case sy18 =>
                  have m2 := (ka'.below hS' ka'.lt).cell (i := 2) rfl
                  have x2 := (kD'.below hS' kD'.lt).cell (i := 2) rfl
                  have cd := ((hBw.trans (hS'.mono hBw.size)).cell (p := ⟨bD, oD + k, none⟩) hbD).trans (hcDH.out k hk)
                  have ca := ((hBr.trans (hS'.mono hBr.size)).cell (p := ⟨ba, oa + k, none⟩) hba).trans (hcaH.out k hk)
                  rw [hdv.out] at cd
                  rw [hpv.out] at ca
                  go_simp
                  rfl
                simp only [List.setIfInBounds_toArray, List.set_cons_zero, List.set_cons_succ]
                refine take_op 19 (v := .bool false) rfl (by kernel_rfl) (fun _ _ _ h => h) (by rfl) hS (fun w' hS' => ?sy19) ?sz19
                case sy19 =>
                  go_simp
                  try simp only [e3]
                  try rfl
                simp only [List.setIfInBounds_toArray, List.set_cons_zero, List.set_cons_succ]
                refine take_op 20 (v := ?sv20) rfl (by kernel_rfl) (fun _ _ _ h => h) (by rfl) hS (fun w' hS' => ?sy20) ?sz20
                case sy20 =>
                  go_simp
                  rfl
                simp only [List.setIfInBounds_toArray, List.set_cons_zero, List.set_cons_succ]
                refine done_ops (by kernel_rfl) ?_
                have x2 := (kD'.below hS kD'.lt).cell (i := 2) rfl
                have cd := ((hBw.trans (hS.mono hBw.size)).cell (p := ⟨bD, oD + k, none⟩) hbD).trans (hcDH.out k hk)
                rw [hdv.out] at cd
                have m2 := (ka'.below hS ka'.lt).cell (i := 2) rfl
                have m0 := (ka'.below hS ka'.lt).cell (i := 0) rfl
                have m1 := (ka'.below hS ka'.lt).cell (i := 1) rfl
                go_wp2_with fail
                refine (lneighbours_any pw ph k (some ⟨ba, oa, none⟩) c n (by omega) (by omega) (by omega) (by omega) (by rw [hNH.out]; exact hk) _).mono ?_
                rintro e V12 ⟨⟨va, vc, rfl, hL⟩, hb⟩
                have hB12 := hBw.trans ((hS.trans (hb.mono hS.size)).mono hBw.size)
                have kD1 := kD.below hB12 kD.lt
                clear hb m0 m1 m2 x2 cd
                obtain ⟨LL, hLL⟩ : ∃ LL, nbrL pw ph k = LL := ⟨_, rfl⟩
                have hnear := Lib.hid (fun q => (show nearerTo (fun i => px D i) k LL q = nearerTo (fun i => px D i) k LL q from rfl))
                have hall : Hid (nearerTo (fun i => px D i) k LL LL.length = true) := Lib.hid (by rw [← hLL]; exact hfull.out k hk)
                have hnb : Hid (∀ j, j ∈ LL → j < n ∧ px D k - px D j ≤ 1 ∧ -1 ≤ px D k - px D j) := Lib.hid (by rw [← hLL]; exact hnbr.out k hk)
                rw [hLL] at hL ⊢
                have hl4 : LL.length ≤ 4 := by rw [← hLL]; exact nbrL_length _ _ _
                clear hLL hnear
                go_wp2_with fail
                go_loopw [9, 11] (fun b i wr => ∃ q : Nat, q ≤ LL.length ∧ i = .int .i64 (q : Int) ∧ b = .bool (nearerTo (fun i => px D i) k LL q) ∧ Below V12.heap.size V12 wr) (fun b i _ => LL.length - (intOf i).toNat)
                case atStart => exact ⟨0, Nat.zero_le _, rfl, by rw [nearerTo_zero]; show _ = Value.bool (decide (px D k = 0)); rw [hdv.out, hd0H.out], Below.refl _ _⟩
                case round =>
                  obtain ⟨q, hq, rfl, rfl, hBL⟩ := hrel
                  have hBq := hB12.trans (hBL.mono hB12.size)
                  have kD2 := kD1.below hBL kD1.lt
                  by_cases hql : q < LL.length
                  · obtain ⟨j, hj⟩ : ∃ j, LL[q]? = some j := ⟨_, List.getElem?_eq_getElem hql⟩
                    obtain ⟨hjn, hd1, hd2⟩ := hnb.out j (List.mem_of_getElem? hj)
                    have hsn := Lib.hid (nearerTo_succ (fun i => px D i) k LL hj)
                    obtain ⟨bL, oL, hLa, hbL, hcl0⟩ := rowN_at hL hj
                    subst hLa
                    have hcl : V12.cell? ⟨bL, oL + q, none⟩ = some (.int .i64 (j : Int)) := hcl0
                    have hclH := Lib.hid hcl
                    obtain ⟨nb, hnbv⟩ : ∃ b, nearerTo (fun i => px D i) k LL q = b := ⟨_, rfl⟩
                    obtain ⟨jv, hjv0⟩ : ∃ v, px D (j : Int) = v := ⟨_, rfl⟩
                    have hjv := Lib.hid hjv0
                    have hsn' : Hid (nearerTo (fun i => px D i) k LL (q + 1) = (nb || decide (dv - jv = 1))) := Lib.hid (by rw [hsn.out, hnbv, ← hjv0, ← hdv.out])
                    rw [hnbv]
                    rw [hjv0, hdv.out] at hd1 hd2
                    have hj256 : j < 256 := by omega
                    clear hj hsn hcl0 hcl hnbv hjv0
                    have hS2 : Below wr.heap.size wr wr.drew := (Below.refl _ _).drew
                    have e1 : decide (1 < dv - jv) = false := decide_eq_false (by omega)
                    have e2 : decide (dv - jv < -1) = false := decide_eq_false (by omega)
                    go_wp2_with fail
                    refine plain_region (fun W' => Below wr.heap.size wr W') 15 15 (by kernel_rfl) rfl ?_
                    simp only [Array.replicate_succ, Array.replicate_zero, List.push_toArray, List.nil_append, List.cons_append]
                    refine take_op 0 (v := ?vv0) rfl (by kernel_rfl) (fun _ _ _ h => h) (by rfl) hS2 (fun w' hS' => ?vy0) ?vz0
                    case vy0 =>
                      go_simp
                      rfl
                    simp only [List.setIfInBounds_toArray, List.set_cons_zero, List.set_cons_succ]
                    refine take_op 1 (v := ?vv1) rfl (by kernel_rfl) (fun _ _ _ h => h) (by rfl) hS2 (fun w' hS' => ?vy1) ?vz1
                    case vy1 =>
                      have x2 := (kD2.below hS' kD2.lt).cell (i := 2) rfl
                      have cd := ((hBq.trans (hS'.mono hBq.size)).cell (p := ⟨bD, oD + k, none⟩) hbD).trans (hcDH.out k hk)
                      have cj := ((hBq.trans (hS'.mono hBq.size)).cell (p := ⟨bD, oD + j, none⟩) hbD).trans (hcDH.out j hjn)
                      have cl := ((hBL.trans (hS'.mono hBL.size)).cell (p := ⟨bL, oL + q, none⟩) hbL).trans hclH.out
                      rw [hdv.out] at cd
                      rw [hjv.out] at cj
                      go_simp
                      rfl
                    simp only [List.setIfInBounds_toArray, List.set_cons_zero, List.set_cons_succ]
                    refine take_op 2 (v := ?vv2) rfl (by kernel_rfl) (fun _ _ _ h => h) (by rfl) hS2 (fun w' hS' => ?vy2) ?vz2
                    case vy2 =>
                      go_simp
                      rfl
                    simp only [List.setIfInBounds_toArray, List.set_cons_zero, List.set_cons_succ]
                    refine take_op 3 (v := ?vv3) rfl (by kernel_rfl) (fun _ _ _ h => h) (by rfl) hS2 (fun w' hS' => ?vy3) ?vz3
                    case vy3 =>
                      go_simp
                      try go_ints
                      first
                      | rfl
                      | rw [if_pos ⟨by omega, by omega⟩]
                    simp only [List.setIfInBounds_toArray, List.set_cons_zero, List.set_cons_succ]
                    refine take_op 4 (v := ?vv4) rfl (by kernel_rfl) (fun _ _ _ h => h) (by rfl) hS2 (fun w' hS' => ?vy4) ?vz4
                    case vy4 =>
                      have x2 := (kD2.below hS' kD2.lt).cell (i := 2) rfl
                      have cd := ((hBq.trans (hS'.mono hBq.size)).cell (p := ⟨bD, oD + k, none⟩) hbD).trans (hcDH.out k hk)
                      have cj := ((hBq.trans (hS'.mono hBq.size)).cell (p := ⟨bD, oD + j, none⟩) hbD).trans (hcDH.out j hjn)
                      have cl := ((hBL.trans (hS'.mono hBL.size)).cell (p := ⟨bL, oL + q, none⟩) hbL).trans hclH.out
                      rw [hdv.out] at cd
                      rw [hjv.out] at cj
                      go_simp
                      rfl
                    simp only [List.setIfInBounds_toArray, List.set_cons_zero, List.set_cons_succ]
                    refine take_op 5 (v := ?vv5) rfl (by kernel_rfl) (fun _ _ _ h => h) (by rfl) hS2 (fun w' hS' => ?vy5) ?vz5
                    case vy5 =>
                      go_simp
                      rfl
                    simp only [List.setIfInBounds_toArray, List.set_cons_zero, List.set_cons_succ]
                    refine take_op 6 (v := ?vv6) rfl (by kernel_rfl) (fun _ _ _ h => h) (by rfl) hS2 (fun w' hS' => ?vy6) ?vz6
                    case vy6 =>
                      have x2 := (kD2.below hS' kD2.lt).cell (i := 2) rfl
                      have cd := ((hBq.trans (hS'.mono hBq.size)).cell (p := ⟨bD, oD + k, none⟩) hbD).trans (hcDH.out k hk)
                      have cj := ((hBq.trans (hS'.mono hBq.size)).cell (p := ⟨bD, oD + j, none⟩) hbD).trans (hcDH.out j hjn)
                      have cl := ((hBL.trans (hS'.mono hBL.size)).cell (p := ⟨bL, oL + q, none⟩) hbL).trans hclH.out
                      rw [hdv.out] at cd
                      rw [hjv.out] at cj
                      go_simp
                      rfl
                    simp only [List.setIfInBounds_toArray, List.set_cons_zero, List.set_cons_succ]
                    refine take_op 7 (v := ?vv7) rfl (by kernel_rfl) (fun _ _ _ h => h) (by rfl) hS2 (fun w' hS' => ?vy7) ?vz7
                    case vy7 =>
                      go_simp
                      rfl
                    simp only [List.setIfInBounds_toArray, List.set_cons_zero, List.set_cons_succ]
                    refine take_op 8 (v := ?vv8) rfl (by kernel_rfl) (fun _ _ _ h => h) (by rfl) hS2 (fun w' hS' => ?vy8) ?vz8
                    case vy8 =>
                      go_simp
                      rfl
                    simp only [List.setIfInBounds_toArray, List.set_cons_zero, List.set_cons_succ]
                    refine take_op 9 (v := ?vv9) rfl (by kernel_rfl) (fun _ _ _ h => h) (by rfl) hS2 (fun w' hS' => ?vy9) ?vz9
                    case vy9 =>
                      go_simp
                      try go_ints
                      first
                      | rfl
                      | rw [if_pos ⟨by omega, by omega⟩]
                    simp only [List.setIfInBounds_toArray, List.set_cons_zero, List.set_cons_succ]
                    refine take_op 10 (v := ?vv10) rfl (by kernel_rfl) (fun _ _ _ h => h) (by rfl) hS2 (fun w' hS' => ?vy10) ?vz10
                    case vy10 =>
                      have x2 := (kD2.below hS' kD2.lt).cell (i := 2) rfl
                      have cd := ((hBq.trans (hS'.mono hBq.size)).cell (p := ⟨bD, oD + k, none⟩) hbD).trans (hcDH.out k hk)
                      have cj := ((hBq.trans (hS'.mono hBq.size)).cell (p := ⟨bD, oD + j, none⟩) hbD).trans (hcDH.out j hjn)
                      have cl := ((hBL.trans (hS'.mono hBL.size)).cell (p := ⟨bL, oL + q, none⟩) hbL).trans hclH.out
                      rw [hdv.out] at cd
                      rw [hjv.out] at cj
                      go_simp
                      rfl
                    simp only [List.setIfInBounds_toArray, List.set_cons_zero, List.set_cons_succ]
                    refine take_op 11 (v := ?vv11) rfl (by kernel_rfl) (fun _ _ _ h => h) (by rfl) hS2 (fun w' hS' => ?vy11) ?vz11
                    case vy11 =>
                      go_simp
                      try go_ints
                      first
                      | rfl
                      | rw [if_pos ⟨by omega, by omega⟩]
                    simp only [List.setIfInBounds_toArray, List.set_cons_zero, List.set_cons_succ]
                    refine take_op 12 (v := ?vv12) rfl (by kernel_rfl) (fun _ _ _ h => h) (by rfl) hS2 (fun w' hS' => ?vy12) ?vz12
                    case vy12 =>
                      have x2 := (kD2.below hS' kD2.lt).cell (i := 2) rfl
                      have cd := ((hBq.trans (hS'.mono hBq.size)).cell (p := ⟨bD, oD + k, none⟩) hbD).trans (hcDH.out k hk)
                      have cj := ((hBq.trans (hS'.mono hBq.size)).cell (p := ⟨bD, oD + j, none⟩) hbD).trans (hcDH.out j hjn)
                      have cl := ((hBL.trans (hS'.mono hBL.size)).cell (p := ⟨bL, oL + q, none⟩) hbL).trans hclH.out
                      rw [hdv.out] at cd
                      rw [hjv.out] at cj
                      go_simp
                      rfl
                    simp only [List.setIfInBounds_toArray, List.set_cons_zero, List.set_cons_succ]
                    refine take_op 13 (v := ?vv13) rfl (by kernel_rfl) (fun _ _ _ h => h) (by rfl) hS2 (fun w' hS' => ?vy13) ?vz13
                    case vy13 =>
                      go_simp
                      try go_ints
                      rfl
                    simp only [List.setIfInBounds_toArray, List.set_cons_zero, List.set_cons_succ]
                    refine take_op 14 (v := ?vv14) rfl (by kernel_rfl) (fun _ _ _ h => h) (by rfl) hS2 (fun w' hS' => ?vy14) ?vz14
                    case vy14 =>
                      go_simp
                      rfl
                    simp only [List.setIfInBounds_toArray, List.set_cons_zero, List.set_cons_succ]
                    refine done_ops (by kernel_rfl) ?_
                    obtain ⟨df, hdf⟩ : ∃ d, dv - jv = d := ⟨_, rfl⟩
                    rw [hdf] at hsn' e1 e2 ⊢
                    clear hdf hd1 hd2
                    cases nb with
                    | true =>
                      go_wp2_with fail
                      go_roundw
                      case rel => exact ⟨q + 1, by omega, by go_num, by rw [hsn'.out]; rfl, hBL.trans (hS2.mono hBL.size)⟩
                      case measure => simp [intOf]; omega
                    | false =>
                      by_cases h1 : df = 1
                      · have e5 : (df == 1) = true := by rw [beq_iff_eq]; exact h1
                        have hsn2 : Hid (nearerTo (fun i => px D i) k LL (q + 1) = true) := Lib.hid (by rw [hsn'.out, decide_eq_true h1]; rfl)
                        clear hsn' h1
                        go_wp2_with fail
                        go_roundw
                        case rel => exact ⟨q + 1, by omega, by go_num, by rw [hsn2.out], hBL.trans (hS2.mono hBL.size)⟩
                        case measure => simp [intOf]; omega
                      · have e5 : (df == 1) = false := by rw [beq_eq_false_iff_ne]; exact h1
                        have hsn2 : Hid (nearerTo (fun i => px D i) k LL (q + 1) = false) := Lib.hid (by rw [hsn'.out, decide_eq_false h1]; rfl)
                        clear hsn' h1
                        go_wp2_with fail
                        go_roundw
                        case rel => exact ⟨q + 1, by omega, by go_num, by rw [hsn2.out], hBL.trans (hS2.mono hBL.size)⟩
                        case measure => simp [intOf]; omega
                  · have hqq : q = LL.length := by omega
                    subst hqq
                    rw [hall.out]
                    go_wp2_with fail
                    go_roundw
                    case rel => exact ⟨k + 1, by omega, by go_num, hBq⟩
                    case measure => simp [intOf]; omega
              · have e1 : (dv == 0) = false := by rw [beq_eq_false_iff_ne]; exact hd0
                have e2 : (pv == 0) = false := by rw [beq_eq_false_iff_ne]; exact fun h => hd0 (hz0.2 h)
                have e3 : decide (dv < 0) = false := decide_eq_false (by omega)
                have hd0H := Lib.hid (show decide (dv = 0) = false from decide_eq_false hd0)
                clear hd0 hz0
                go_wp2_with fail
                clear m2
                refine plain_region (fun W' => Below wr.heap.size wr W') 21 21 (by kernel_rfl) rfl ?_
                simp only [Array.replicate_succ, Array.replicate_zero, List.push_toArray, List.nil_append, List.cons_append]
                refine take_op 0 (v := ?tv0) rfl (by kernel_rfl) (fun _ _ _ h => h) (by rfl) hS (fun w' hS' => ?ty0) ?tz0
                case ty0 =>
                  go_simp
                  rfl
                simp only [List.setIfInBounds_toArray, List.set_cons_zero, List.set_cons_succ]
                refine take_op 1 (v := ?tv1) rfl (by kernel_rfl) (fun _ _ _ h => h) (by rfl) hS (fun w' hS' => ?ty1) ?tz1
                case ty1 =>
                  have m2 := (ka'.below hS' ka'.lt).cell (i := 2) rfl
                  have x2 := (kD'.below hS' kD'.lt).cell (i := 2) rfl
                  have cd := ((hBw.trans (hS'.mono hBw.size)).cell (p := ⟨bD, oD + k, none⟩) hbD).trans (hcDH.out k hk)
                  have ca := ((hBr.trans (hS'.mono hBr.size)).cell (p := ⟨ba, oa + k, none⟩) hba).trans (hcaH.out k hk)
                  rw [hdv.out] at cd
                  rw [hpv.out] at ca
                  go_simp
                  rfl
                simp only [List.setIfInBounds_toArray, List.set_cons_zero, List.set_cons_succ]
                refine take_op 2 (v := ?tv2) rfl (by kernel_rfl) (fun _ _ _ h => h) (by rfl) hS (fun w' hS' => ?ty2) ?tz2
                case ty2 =>
                  go_simp
                  rfl
                simp only [List.setIfInBounds_toArray, List.set_cons_zero, List.set_cons_succ]
                refine take_op 3 (v := ?tv3) rfl (by kernel_rfl) (fun _ _ _ h => h) (by rfl) hS (fun w' hS' => ?ty3) ?tz3
                case ty3 =>
                  go_simp
                  try go_ints
                  first
                  | rfl
                  | rw [if_pos ⟨by omega, by omega⟩]
                simp only [List.setIfInBounds_toArray, List.set_cons_zero, List.set_cons_succ]
                refine take_op 4 (v := ?tv4) rfl (by kernel_rfl) (fun _ _ _ h => h) (by rfl) hS (fun w' hS' => ?ty4) ?tz4
                case ty4 =>
                  have m2 := (ka'.below hS' ka'.lt).cell (i := 2) rfl
                  have x2 := (kD'.below hS' kD'.lt).cell (i := 2) rfl
                  have cd := ((hBw.trans (hS'.mono hBw.size)).cell (p := ⟨bD, oD + k, none⟩) hbD).trans (hcDH.out k hk)
                  have ca := ((hBr.trans (hS'.mono hBr.size)).cell (p := ⟨ba, oa + k, none⟩) hba).trans (hcaH.out k hk)
                  rw [hdv.out] at cd
                  rw [hpv.out] at ca
                  go_simp
                  rfl
                simp only [List.setIfInBounds_toArray, List.set_cons_zero, List.set_cons_succ]
                refine take_op 5 (v := .bool false) rfl (by kernel_rfl) (fun _ _ _ h => h) (by rfl) hS (fun w' hS' => ?ty5) ?tz5
                case ty5 =>
                  go_simp
                  try simp only [e1]
                  try rfl
                simp only [List.setIfInBounds_toArray, List.set_cons_zero, List.set_cons_succ]
                refine take_op 6 (v := ?tv6) rfl (by kernel_rfl) (fun _ _ _ h => h) (by rfl) hS (fun w' hS' => ?ty6) ?tz6
                case ty6 =>
                  go_simp
                  rfl
                simp only [List.setIfInBounds_toArray, List.set_cons_zero, List.set_cons_succ]
                refine take_op 7 (v := ?tv7) rfl (by kernel_rfl) (fun _ _ _ h => h) (by rfl) hS (fun w' hS' => ?ty7) ?tz7
                case ty7 =>
                  have m2 := (ka'.below hS' ka'.lt).cell (i := 2) rfl
                  have x2 := (kD'.below hS' kD'.lt).cell (i := 2) rfl
                  have cd := ((hBw.trans (hS'.mono hBw.size)).cell (p := ⟨bD, oD + k, none⟩) hbD).trans (hcDH.out k hk)
                  have ca := ((hBr.trans (hS'.mono hBr.size)).cell (p := ⟨ba, oa + k, none⟩) hba).trans (hcaH.out k hk)
                  rw [hdv.out] at cd
                  rw [hpv.out] at ca
                  go_simp
                  rfl
                simp only [List.setIfInBounds_toArray, List.set_cons_zero, List.set_cons_succ]
                refine take_op 8 (v := ?tv8) rfl (by kernel_rfl) (fun _ _ _ h => h) (by rfl) hS (fun w' hS' => ?ty8) ?tz8
                case ty8 =>
                  go_simp
                  rfl
                simp only [List.setIfInBounds_toArray, List.set_cons_zero, List.set_cons_succ]
                refine take_op 9 (v := ?tv9) rfl (by kernel_rfl) (fun _ _ _ h => h) (by rfl) hS (fun w' hS' => ?ty9) ?tz9
                case ty9 =>
                  go_simp
                  try go_ints
                  first
                  | rfl
                  | rw [if_pos ⟨by omega, by omega⟩]
                simp only [List.setIfInBounds_toArray, List.set_cons_zero, List.set_cons_succ]
                refine take_op 10 (v := ?tv10) rfl (by kernel_rfl) (fun _ _ _ h => h) (by rfl) hS (fun w' hS' => ?ty10) ?tz10
                case ty10 =>
                  have m2 := (ka'.below hS' ka'.lt).cell (i := 2) rfl
                  have x2 := (kD'.below hS' kD'.lt).cell (i := 2) rfl
                  have cd := ((hBw.trans (hS'.mono hBw.size)).cell (p := ⟨bD, oD + k, none⟩) hbD).trans (hcDH.out k hk)
                  have ca := ((hBr.trans (hS'.mono hBr.size)).cell (p := ⟨ba, oa + k, none⟩) hba).trans (hcaH.out k hk)
                  rw [hdv.out] at cd
                  rw [hpv.out] at ca
                  go_simp
                  rfl
                simp only [List.setIfInBounds_toArray, List.set_cons_zero, List.set_cons_succ]
                refine take_op 11 (v := .bool false) rfl (by kernel_rfl) (fun _ _ _ h => h) (by rfl) hS (fun w' hS' => ?ty11) ?tz11
                case ty11 =>
                  go_simp
                  try simp only [e2]
                  try rfl
                simp only [List.setIfInBounds_toArray, List.set_cons_zero, List.set_cons_succ]
                refine take_op 12 (v := .bool false) rfl (by kernel_rfl) (fun _ _ _ h => h) (by rfl) hS (fun w' hS' => ?ty12) ?tz12
                case ty12 =>
                  go_simp
                  try rfl
                simp only [List.setIfInBounds_toArray, List.set_cons_zero, List.set_cons_succ]
                refine take_op 13 (v := ?tv13) rfl (by kernel_rfl) (fun _ _ _ h => h) (by rfl) hS (fun w' hS' => ?ty13) ?tz13
                case ty13 =>
                  go_simp
                  rfl
                simp only [List.setIfInBounds_toArray, List.set_cons_zero, List.set_cons_succ]
                refine take_op 14 (v := ?tv14) rfl (by kernel_rfl) (fun _ _ _ h => h) (by rfl) hS (fun w' hS' => ?ty14) ?tz14
                case ty14 =>
                  go_simp
                  rfl
                simp only [List.setIfInBounds_toArray, List.set_cons_zero, List.set_cons_succ]
                refine take_op 15 (v := ?tv15) rfl (by kernel_rfl) (fun _ _ _ h => h) (by rfl) hS (fun w' hS' => ?ty15) ?tz15
                case ty15 =>
                  have m2 := (ka'.below hS' ka'.lt).cell (i := 2) rfl
                  have x2 := (kD'.below hS' kD'.lt).cell (i := 2) rfl
                  have cd := ((hBw.trans (hS'.mono hBw.size)).cell (p := ⟨bD, oD + k, none⟩) hbD).trans (hcDH.out k hk)
                  have ca := ((hBr.trans (hS'.mono hBr.size)).cell (p := ⟨ba, oa + k, none⟩) hba).trans (hcaH.out k hk)
                  rw [hdv.out] at cd
                  rw [hpv.out] at ca
                  go_simp
                  rfl
                simp only [List.setIfInBounds_toArray, List.set_cons_zero, List.set_cons_succ]
                refine take_op 16 (v := ?tv16) rfl (by kernel_rfl) (fun _ _ _ h => h) (by rfl) hS (fun w' hS' => ?ty16) ?tz16
                case ty16 =>
                  go_simp
                  rfl
                simp only [List.setIfInBounds_toArray, List.set_cons_zero, List.set_cons_succ]
                refine take_op 17 (v := ?tv17) rfl (by kernel_rfl) (fun _ _ _ h => h) (by rfl) hS (fun w' hS' => ?ty17) ?tz17
                case ty17 =>
                  go_simp
                  try go_ints
                  first
                  | rfl
                  | rw [if_pos ⟨by omega, by omega⟩]
                simp only [List.setIfInBounds_toArray, List.set_cons_zero, List.set_cons_succ]
                refine take_op 18 (v := ?tv18) rfl (by kernel_rfl) (fun _ _ _ h => h) (by rfl) hS (fun w' hS' => ?ty18) ?tz18
                case ty18 =>
                  have m2 := (ka'.below hS' ka'.lt).cell (i := 2) rfl
                  have x2 := (kD'.below hS' kD'.lt).cell (i := 2) rfl
                  have cd := ((hBw.trans (hS'.mono hBw.size)).cell (p := ⟨bD, oD + k, none⟩) hbD).trans (hcDH.out k hk)
                  have ca := ((hBr.trans (hS'.mono hBr.size)).cell (p := ⟨ba, oa + k, none⟩) hba).trans (hcaH.out k hk)
                  rw [hdv.out] at cd
                  rw [hpv.out] at ca
                  go_simp
                  rfl
                simp only [List.setIfInBounds_toArray, List.set_cons_zero, List.set_cons_succ]
                refine take_op 19 (v := .bool false) rfl (by kernel_rfl) (fun _ _ _ h => h) (by rfl) hS (fun w' hS' => ?ty19) ?tz19
                case ty19 =>
                  go_simp
                  try simp only [e3]
                  try rfl
                simp only [List.setIfInBounds_toArray, List.set_cons_zero, List.set_cons_succ]
                refine take_op 20 (v := ?tv20) rfl (by kernel_rfl) (fun _ _ _ h => h) (by rfl) hS (fun w' hS' => ?ty20) ?tz20
                case ty20 =>
                  go_simp
                  rfl
                simp only [List.setIfInBounds_toArray, List.set_cons_zero, List.set_cons_succ]
                refine done_ops (by kernel_rfl) ?_
                have x2 := (kD'.below hS kD'.lt).cell (i := 2) rfl
                have cd := ((hBw.trans (hS.mono hBw.size)).cell (p := ⟨bD, oD + k, none⟩) hbD).trans (hcDH.out k hk)
                rw [hdv.out] at cd
                have m2 := (ka'.below hS ka'.lt).cell (i := 2) rfl
                have m0 := (ka'.below hS ka'.lt).cell (i := 0) rfl
                have m1 := (ka'.below hS ka'.lt).cell (i := 1) rfl
                go_wp2_with fail
                refine (lneighbours_any pw ph k (some ⟨ba, oa, none⟩) c n (by omega) (by omega) (by omega) (by omega) (by rw [hNH.out]; exact hk) _).mono ?_
                rintro e V12 ⟨⟨va, vc, rfl, hL⟩, hb⟩
                have hB12 := hBw.trans ((hS.trans (hb.mono hS.size)).mono hBw.size)
                have kD1 := kD.below hB12 kD.lt
                clear hb m0 m1 m2 x2 cd
                obtain ⟨LL, hLL⟩ : ∃ LL, nbrL pw ph k = LL := ⟨_, rfl⟩
                have hnear := Lib.hid (fun q => (show nearerTo (fun i => px D i) k LL q = nearerTo (fun i => px D i) k LL q from rfl))
                have hall : Hid (nearerTo (fun i => px D i) k LL LL.length = true) := Lib.hid (by rw [← hLL]; exact hfull.out k hk)
                have hnb : Hid (∀ j, j ∈ LL → j < n ∧ px D k - px D j ≤ 1 ∧ -1 ≤ px D k - px D j) := Lib.hid (by rw [← hLL]; exact hnbr.out k hk)
                rw [hLL] at hL ⊢
                have hl4 : LL.length ≤ 4 := by rw [← hLL]; exact nbrL_length _ _ _
                clear hLL hnear
                go_wp2_with fail
                go_loopw [9, 11] (fun b i wr => ∃ q : Nat, q ≤ LL.length ∧ i = .int .i64 (q : Int) ∧ b = .bool (nearerTo (fun i => px D i) k LL q) ∧ Below V12.heap.size V12 wr) (fun b i _ => LL.length - (intOf i).toNat)
                case atStart => exact ⟨0, Nat.zero_le _, rfl, by rw [nearerTo_zero]; show _ = Value.bool (decide (px D k = 0)); rw [hdv.out, hd0H.out], Below.refl _ _⟩
                case round =>
                  obtain ⟨q, hq, rfl, rfl, hBL⟩ := hrel
                  have hBq := hB12.trans (hBL.mono hB12.size)
                  have kD2 := kD1.below hBL kD1.lt
                  by_cases hql : q < LL.length
                  · obtain ⟨j, hj⟩ : ∃ j, LL[q]? = some j := ⟨_, List.getElem?_eq_getElem hql⟩
                    obtain ⟨hjn, hd1, hd2⟩ := hnb.out j (List.mem_of_getElem? hj)
                    have hsn := Lib.hid (nearerTo_succ (fun i => px D i) k LL hj)
                    obtain ⟨bL, oL, hLa, hbL, hcl0⟩ := rowN_at hL hj
                    subst hLa
                    have hcl : V12.cell? ⟨bL, oL + q, none⟩ = some (.int .i64 (j : Int)) := hcl0
                    have hclH := Lib.hid hcl
                    obtain ⟨nb, hnbv⟩ : ∃ b, nearerTo (fun i => px D i) k LL q = b := ⟨_, rfl⟩
                    obtain ⟨jv, hjv0⟩ : ∃ v, px D (j : Int) = v := ⟨_, rfl⟩
                    have hjv := Lib.hid hjv0
                    have hsn' : Hid (nearerTo (fun i => px D i) k LL (q + 1) = (nb || decide (dv - jv = 1))) := Lib.hid (by rw [hsn.out, hnbv, ← hjv0, ← hdv.out])
                    rw [hnbv]
                    rw [hjv0, hdv.out] at hd1 hd2
                    have hj256 : j < 256 := by omega
                    clear hj hsn hcl0 hcl hnbv hjv0
                    have hS2 : Below wr.heap.size wr wr.drew := (Below.refl _ _).drew
                    have e1 : decide (1 < dv - jv) = false := decide_eq_false (by omega)
                    have e2 : decide (dv - jv < -1) = false := decide_eq_false (by omega)
                    go_wp2_with fail
                    refine plain_region (fun W' => Below wr.heap.size wr W') 15 15 (by kernel_rfl) rfl ?_
                    simp only [Array.replicate_succ, Array.replicate_zero, List.push_toArray, List.nil_append, List.cons_append]
                    refine take_op 0 (v := ?xv0) rfl (by kernel_rfl) (fun _ _ _ h => h) (by rfl) hS2 (fun w' hS' => ?xy0) ?xz0
                    case xy0 =>
                      go_simp
                      rfl
                    simp only [List.setIfInBounds_toArray, List.set_cons_zero, List.set_cons_succ]
                    refine take_op 1 (v := ?xv1) rfl (by kernel_rfl) (fun _ _ _ h => h) (by rfl) hS2 (fun w' hS' => ?xy1) ?xz1
                    case xy1 =>
                      have x2 := (kD2.below hS' kD2.lt).cell (i := 2) rfl
                      have cd := ((hBq.trans (hS'.mono hBq.size)).cell (p := ⟨bD, oD + k, none⟩) hbD).trans (hcDH.out k hk)
                      have cj := ((hBq.trans (hS'.mono hBq.size)).cell (p := ⟨bD, oD + j, none⟩) hbD).trans (hcDH.out j hjn)
                      have cl := ((hBL.trans (hS'.mono hBL.size)).cell (p := ⟨bL, oL + q, none⟩) hbL).trans hclH.out
                      rw [hdv.out] at cd
                      rw [hjv.out] at cj
                      go_simp
                      rfl
                    simp only [List.setIfInBounds_toArray, List.set_cons_zero, List.set_cons_succ]
                    refine take_op 2 (v := ?xv2) rfl (by kernel_rfl) (fun _ _ _ h => h) (by rfl) hS2 (fun w' hS' => ?xy2) ?xz2
                    case xy2 =>
                      go_simp
                      rfl
                    simp only [List.setIfInBounds_toArray, List.set_cons_zero, List.set_cons_succ]
                    refine take_op 3 (v := ?xv3) rfl (by kernel_rfl) (fun _ _ _ h => h) (by rfl) hS2 (fun w' hS' => ?xy3) ?xz3
                    case xy3 =>
                      go_simp
                      try go_ints
                      first
                      | rfl
                      | rw [if_pos ⟨by omega, by omega⟩]
                    simp only [List.setIfInBounds_toArray, List.set_cons_zero, List.set_cons_succ]
                    refine take_op 4 (v := ?xv4) rfl (by kernel_rfl) (fun _ _ _ h => h) (by rfl) hS2 (fun w' hS' => ?xy4) ?xz4
                    case xy4 =>
                      have x2 := (kD2.below hS' kD2.lt).cell (i := 2) rfl
                      have cd := ((hBq.trans (hS'.mono hBq.size)).cell (p := ⟨bD, oD + k, none⟩) hbD).trans (hcDH.out k hk)
                      have cj := ((hBq.trans (hS'.mono hBq.size)).cell (p := ⟨bD, oD + j, none⟩) hbD).trans (hcDH.out j hjn)
                      have cl := ((hBL.trans (hS'.mono hBL.size)).cell (p := ⟨bL, oL + q, none⟩) hbL).trans hclH.out
                      rw [hdv.out] at cd
                      rw [hjv.out] at cj
                      go_simp
                      rfl
                    simp only [List.setIfInBounds_toArray, List.set_cons_zero, List.set_cons_succ]
                    refine take_op 5 (v := ?xv5) rfl (by kernel_rfl) (fun _ _ _ h => h) (by rfl) hS2 (fun w' hS' => ?xy5) ?xz5
                    case xy5 =>
                      go_simp
                      rfl
                    simp only [List.setIfInBounds_toArray, List.set_cons_zero, List.set_cons_succ]
                    refine take_op 6 (v := ?xv6) rfl (by kernel_rfl) (fun _ _ _ h => h) (by rfl) hS2 (fun w' hS' => ?xy6) ?xz6
                    case xy6 =>
                      have x2 := (kD2.below hS' kD2.lt).cell (i := 2) rfl
                      have cd := ((hBq.trans (hS'.mono hBq.size)).cell (p := ⟨bD, oD + k, none⟩) hbD).trans (hcDH.out k hk)
                      have cj := ((hBq.trans (hS'.mono hBq.size)).cell (p := ⟨bD, oD + j, none⟩) hbD).trans (hcDH.out j hjn)
                      have cl := ((hBL.trans (hS'.mono hBL.size)).cell (p := ⟨bL, oL + q, none⟩) hbL).trans hclH.out
                      rw [hdv.out] at cd
                      rw [hjv.out] at cj
                      go_simp
                      rfl
                    simp only [List.setIfInBounds_toArray, List.set_cons_zero, List.set_cons_succ]
                    refine take_op 7 (v := ?xv7) rfl (by kernel_rfl) (fun _ _ _ h => h) (by rfl) hS2 (fun w' hS' => ?xy7) ?xz7
                    case xy7 =>
                      go_simp
                      rfl
                    simp only [List.setIfInBounds_toArray, List.set_cons_zero, List.set_cons_succ]
                    refine take_op 8 (v := ?xv8) rfl (by kernel_rfl) (fun _ _ _ h => h) (by rfl) hS2 (fun w' hS' => ?xy8) ?xz8
                    case xy8 =>
                      go_simp
                      rfl
                    simp only [List.setIfInBounds_toArray, List.set_cons_zero, List.set_cons_succ]
                    refine take_op 9 (v := ?xv9) rfl (by kernel_rfl) (fun _ _ _ h => h) (by rfl) hS2 (fun w' hS' => ?xy9) ?xz9
                    case xy9 =>
                      go_simp
                      try go_ints
                      first
                      | rfl
                      | rw [if_pos ⟨by omega, by omega⟩]
                    simp only [List.setIfInBounds_toArray, List.set_cons_zero, List.set_cons_succ]
                    refine take_op 10 (v := ?xv10) rfl (by kernel_rfl) (fun _ _ _ h => h) (by rfl) hS2 (fun w' hS' => ?xy10) ?xz10
                    case xy10 =>
                      have x2 := (kD2.below hS' kD2.lt).cell (i := 2) rfl
                      have cd := ((hBq.trans (hS'.mono hBq.size)).cell (p := ⟨bD, oD + k, none⟩) hbD).trans (hcDH.out k hk)
                      have cj := ((hBq.trans (hS'.mono hBq.size)).cell (p := ⟨bD, oD + j, none⟩) hbD).trans (hcDH.out j hjn)
                      have cl := ((hBL.trans (hS'.mono hBL.size)).cell (p := ⟨bL, oL + q, none⟩) hbL).trans hclH.out
                      rw [hdv.out] at cd
                      rw [hjv.out] at cj
                      go_simp
                      rfl
                    simp only [List.setIfInBounds_toArray, List.set_cons_zero, List.set_cons_succ]
                    refine take_op 11 (v := ?xv11) rfl (by kernel_rfl) (fun _ _ _ h => h) (by rfl) hS2 (fun w' hS' => ?xy11) ?xz11
                    case xy11 =>
                      go_simp
                      try go_ints
                      first
                      | rfl
                      | rw [if_pos ⟨by omega, by omega⟩]
                    simp only [List.setIfInBounds_toArray, List.set_cons_zero, List.set_cons_succ]
                    refine take_op 12 (v := ?xv12) rfl (by kernel_rfl) (fun _ _ _ h => h) (by rfl) hS2 (fun w' hS' => ?xy12) ?xz12
                    case xy12 =>
                      have x2 := (kD2.below hS' kD2.lt).cell (i := 2) rfl
                      have cd := ((hBq.trans (hS'.mono hBq.size)).cell (p := ⟨bD, oD + k, none⟩) hbD).trans (hcDH.out k hk)
                      have cj := ((hBq.trans (hS'.mono hBq.size)).cell (p := ⟨bD, oD + j, none⟩) hbD).trans (hcDH.out j hjn)
                      have cl := ((hBL.trans (hS'.mono hBL.size)).cell (p := ⟨bL, oL + q, none⟩) hbL).trans hclH.out
                      rw [hdv.out] at cd
                      rw [hjv.out] at cj
                      go_simp
                      rfl
                    simp only [List.setIfInBounds_toArray, List.set_cons_zero, List.set_cons_succ]
                    refine take_op 13 (v := ?xv13) rfl (by kernel_rfl) (fun _ _ _ h => h) (by rfl) hS2 (fun w' hS' => ?xy13) ?xz13
                    case xy13 =>
                      go_simp
                      try go_ints
                      rfl
                    simp only [List.setIfInBounds_toArray, List.set_cons_zero, List.set_cons_succ]
                    refine take_op 14 (v := ?xv14) rfl (by kernel_rfl) (fun _ _ _ h => h) (by rfl) hS2 (fun w' hS' => ?xy14) ?xz14
                    case xy14 =>
                      go_simp
                      rfl
                    simp only [List.setIfInBounds_toArray, List.set_cons_zero, List.set_cons_succ]
                    refine done_ops (by kernel_rfl) ?_
                    obtain ⟨df, hdf⟩ : ∃ d, dv - jv = d := ⟨_, rfl⟩
                    rw [hdf] at hsn' e1 e2 ⊢
                    clear hdf hd1 hd2
                    cases nb with
                    | true =>
                      go_wp2_with fail
                      go_roundw
                      case rel => exact ⟨q + 1, by omega, by go_num, by rw [hsn'.out]; rfl, hBL.trans (hS2.mono hBL.size)⟩
                      case measure => simp [intOf]; omega
                    | false =>
                      by_cases h1 : df = 1
                      · have e5 : (df == 1) = true := by rw [beq_iff_eq]; exact h1
                        have hsn2 : Hid (nearerTo (fun i => px D i) k LL (q + 1) = true) := Lib.hid (by rw [hsn'.out, decide_eq_true h1]; rfl)
                        clear hsn' h1
                        go_wp2_with fail
                        go_roundw
                        case rel => exact ⟨q + 1, by omega, by go_num, by rw [hsn2.out], hBL.trans (hS2.mono hBL.size)⟩
                        case measure => simp [intOf]; omega
                      · have e5 : (df == 1) = false := by rw [beq_eq_false_iff_ne]; exact h1
                        have hsn2 : Hid (nearerTo (fun i => px D i) k LL (q + 1) = false) := Lib.hid (by rw [hsn'.out, decide_eq_false h1]; rfl)
                        clear hsn' h1
                        go_wp2_with fail
                        go_roundw
                        case rel => exact ⟨q + 1, by omega, by go_num, by rw [hsn2.out], hBL.trans (hS2.mono hBL.size)⟩
                        case measure => simp [intOf]; omega
                  · have hqq : q = LL.length := by omega
                    subst hqq
                    rw [hall.out]
                    go_wp2_with fail
                    go_roundw
                    case rel => exact ⟨k + 1, by omega, by go_num, hBq⟩
                    case measure => simp [intOf]; omega
            · have hkk : n = k := by omega
              subst hkk
              go_wp2_with fail
              go_ret
              exact ⟨rfl, hBr⟩

end Go.Proofs.Ytjglfeonoiljlaa
namespace Go.Proofs.Ytjglfeonoiljlaa
set_option linter.unusedVariables false
set_option linter.unusedSimpArgs false

/-- Pixels that hang together, along neighbours whose values are not 0. -/
inductive Conn (N pw : Nat) (e : Bool) (nz : Nat → Bool) (i : Nat) : Nat → Prop
  | base : i < N → nz i = true → Conn N pw e nz i i
  | step {k l : Nat} : Conn N pw e nz i k → l < N → nearB pw e k l = true → nz l = true → Conn N pw e nz i l

section
variable {N pw : Nat} {e : Bool} {nz : Nat → Bool}

theorem Conn.right {i k : Nat} (h : Conn N pw e nz i k) : k < N ∧ nz k = true := by
  cases h with
  | base h1 h2 => exact ⟨h1, h2⟩
  | step _ h1 _ h2 => exact ⟨h1, h2⟩
theorem Conn.left {i k : Nat} (h : Conn N pw e nz i k) : i < N ∧ nz i = true := by
  induction h with
  | base h1 h2 => exact ⟨h1, h2⟩
  | step _ _ _ _ ih => exact ih
theorem Conn.trans {i k l : Nat} (h : Conn N pw e nz i k) (h2 : Conn N pw e nz k l) : Conn N pw e nz i l := by
  induction h2 with
  | base _ _ => exact h
  | step _ h1 h2 h3 ih => exact ih.step h1 h2 h3
theorem Conn.symm {i k : Nat} (h : Conn N pw e nz i k) : Conn N pw e nz k i := by
  induction h with
  | base h1 h2 => exact .base h1 h2
  | step h0 h1 h2 h3 ih => exact ((Conn.base h1 h3).step h0.right.1 (by rw [nearB_comm]; exact h2) h0.right.2).trans ih
theorem Conn.near {k l : Nat} (hk : k < N) (hz : nz k = true) (hl : l < N) (hn : nearB pw e k l = true) (hzl : nz l = true) : Conn N pw e nz k l := (Conn.base hk hz).step hl hn hzl
theorem Conn.eight {i k : Nat} (h : Conn N pw false nz i k) : Conn N pw true nz i k := by
  induction h with
  | base h1 h2 => exact .base h1 h2
  | step _ h1 h2 h3 ih => exact ih.step h1 (by rw [nearB_four] at h2; simp [nearB, h2]) h3
end

/-- The number of pixel k when the first i pixels have been seen, and how many parts there are then. -/
noncomputable def lb (N pw : Nat) (e : Bool) (nz : Nat → Bool) (i k : Nat) : Int := px (labTo N pw e nz i).1 k
noncomputable def ln (N pw : Nat) (e : Bool) (nz : Nat → Bool) (i : Nat) : Nat := (labTo N pw e nz i).2

section
variable {N pw : Nat} {e : Bool} {nz : Nat → Bool}

theorem lb_zero (k : Nat) : lb N pw e nz 0 k = 0 := by
  unfold lb labTo
  rw [px_nat, List.getElem?_replicate]
  split <;> rfl
theorem ln_zero : ln N pw e nz 0 = 0 := rfl
theorem lb_bd (i k : Nat) : 0 ≤ lb N pw e nz i k ∧ lb N pw e nz i k ≤ (ln N pw e nz i : Int) := labTo_bd i k
theorem lb_skip {i : Nat} (h : ¬ (nz i = true ∧ lb N pw e nz i i = 0)) : (∀ k, lb N pw e nz (i + 1) k = lb N pw e nz i k) ∧ ln N pw e nz (i + 1) = ln N pw e nz i := by
  have h' : ¬ (nz i = true ∧ px (labTo N pw e nz i).1 i = 0) := h
  have : labTo N pw e nz (i + 1) = labTo N pw e nz i := by rw [labTo, if_neg h']
  unfold lb ln
  rw [this]
  exact ⟨fun _ => rfl, rfl⟩
theorem lb_new {i : Nat} (hz : nz i = true) (h0 : lb N pw e nz i i = 0) : ln N pw e nz (i + 1) = ln N pw e nz i + 1 ∧
    ∀ k, k < N → (Reach N pw e nz (fun j => lb N pw e nz i j) i k → lb N pw e nz (i + 1) k = ((ln N pw e nz i + 1 : Nat) : Int)) ∧ (¬ Reach N pw e nz (fun j => lb N pw e nz i j) i k → lb N pw e nz (i + 1) k = lb N pw e nz i k) := by
  have : labTo N pw e nz (i + 1) = (labFill N pw e nz (labTo N pw e nz i).1 (((labTo N pw e nz i).2 + 1 : Nat) : Int) i, (labTo N pw e nz i).2 + 1) := by rw [labTo, if_pos ⟨hz, h0⟩]
  refine ⟨by unfold ln; rw [this], fun k hk => ?_⟩
  have hp : lb N pw e nz (i + 1) k = px (labFill N pw e nz (labTo N pw e nz i).1 (((labTo N pw e nz i).2 + 1 : Nat) : Int) i) k := by unfold lb; rw [this]
  rw [hp]
  unfold labFill
  rw [px_map_range _ hk]
  constructor
  · intro hr
    exact if_pos hr
  · intro hr
    exact if_neg hr

/-- What is known of the numbers when the first i pixels have been seen. -/
structure LabInv (N pw : Nat) (e : Bool) (nz : Nat → Bool) (i : Nat) : Prop where
  has : ∀ k, k < N → (lb N pw e nz i k ≠ 0 ↔ ∃ j, j < i ∧ Conn N pw e nz j k)
  same : ∀ k l, k < N → l < N → lb N pw e nz i k ≠ 0 → (lb N pw e nz i l = lb N pw e nz i k ↔ Conn N pw e nz k l)

theorem LabInv.reach {i : Nat} (h : LabInv N pw e nz i) (hi : i < N) (hz : nz i = true) (h0 : lb N pw e nz i i = 0) (k : Nat) : Reach N pw e nz (fun j => lb N pw e nz i j) i k ↔ Conn N pw e nz i k := by
  constructor
  · intro hr
    induction hr with
    | base => exact .base hi hz
    | step _ h1 h2 h3 _ ih => exact ih.step h1 h2 h3
  · intro hc
    induction hc with
    | base _ _ => exact .base
    | step hc h1 h2 h3 ih =>
      refine ih.step h1 h2 h3 (Classical.byContradiction fun hne => ?_)
      obtain ⟨j, hj, hjl⟩ := (h.has _ h1).1 hne
      exact (h.has i hi).2 ⟨j, hj, hjl.trans (hc.step h1 h2 h3).symm⟩ h0

theorem labInv : ∀ (i : Nat), i ≤ N → LabInv N pw e nz i
  | 0, _ => ⟨fun k _ => ⟨fun h => (h (lb_zero k)).elim, fun ⟨j, hj, _⟩ => by omega⟩, fun k l _ _ h => (h (lb_zero k)).elim⟩
  | i + 1, hi => by
    have ih := labInv i (by omega)
    by_cases hc : nz i = true ∧ lb N pw e nz i i = 0
    · obtain ⟨hz, h0⟩ := hc
      obtain ⟨hn, hk⟩ := lb_new hz h0
      have hpos : ((ln N pw e nz i + 1 : Nat) : Int) ≠ 0 := by omega
      have key : ∀ k, k < N → (Conn N pw e nz i k → lb N pw e nz (i + 1) k = ((ln N pw e nz i + 1 : Nat) : Int)) ∧ (¬ Conn N pw e nz i k → lb N pw e nz (i + 1) k = lb N pw e nz i k) := fun k hkN =>
        ⟨fun h => (hk k hkN).1 ((ih.reach (by omega) hz h0 k).2 h), fun h => (hk k hkN).2 fun hr => h ((ih.reach (by omega) hz h0 k).1 hr)⟩
      constructor
      · intro k hkN
        by_cases hck : Conn N pw e nz i k
        · rw [(key k hkN).1 hck]
          exact ⟨fun _ => ⟨i, by omega, hck⟩, fun _ => hpos⟩
        · rw [(key k hkN).2 hck, ih.has k hkN]
          constructor
          · rintro ⟨j, hj, h⟩; exact ⟨j, by omega, h⟩
          · rintro ⟨j, hj, h⟩
            by_cases e : j = i
            · subst e; exact (hck h).elim
            · exact ⟨j, by omega, h⟩
      · intro k l hkN hlN hne
        have bl := lb_bd (N := N) (pw := pw) (e := e) (nz := nz) i l
        have bk := lb_bd (N := N) (pw := pw) (e := e) (nz := nz) i k
        by_cases hck : Conn N pw e nz i k
        · rw [(key k hkN).1 hck]
          by_cases hcl : Conn N pw e nz i l
          · rw [(key l hlN).1 hcl]
            exact ⟨fun _ => hck.symm.trans hcl, fun _ => rfl⟩
          · rw [(key l hlN).2 hcl]
            exact ⟨fun h => by omega, fun h => (hcl (hck.trans h)).elim⟩
        · rw [(key k hkN).2 hck] at hne ⊢
          by_cases hcl : Conn N pw e nz i l
          · rw [(key l hlN).1 hcl]
            exact ⟨fun h => by omega, fun h => (hck (hcl.trans h.symm)).elim⟩
          · rw [(key l hlN).2 hcl]
            exact ih.same k l hkN hlN hne
    · obtain ⟨hk, hn⟩ := lb_skip hc
      constructor
      · intro k hkN
        rw [hk, ih.has k hkN]
        constructor
        · rintro ⟨j, hj, h⟩; exact ⟨j, by omega, h⟩
        · rintro ⟨j, hj, h⟩
          by_cases e : j = i
          · subst e
            have hne : lb N pw _ nz j j ≠ 0 := fun h0 => hc ⟨h.left.2, h0⟩
            obtain ⟨j', hj', h'⟩ := (ih.has j (by omega)).1 hne
            exact ⟨j', hj', h'.trans h⟩
          · exact ⟨j, by omega, h⟩
      · intro k l hkN hlN
        rw [hk, hk]
        exact ih.same k l hkN hlN

/-- A number once given stays. -/
theorem lb_stay {i k : Nat} (hi : i ≤ N) (hk : k < N) (h : lb N pw e nz i k ≠ 0) : ∀ d, i + d ≤ N → lb N pw e nz (i + d) k = lb N pw e nz i k
  | 0, _ => rfl
  | d + 1, hd => by
    have ih := lb_stay hi hk h d (by omega)
    rw [← ih]
    show lb N pw e nz (i + d + 1) k = _
    by_cases hc : nz (i + d) = true ∧ lb N pw e nz (i + d) (i + d) = 0
    · obtain ⟨hz, h0⟩ := hc
      obtain ⟨_, hkk⟩ := lb_new hz h0
      refine (hkk k hk).2 fun hr => ?_
      have inv := labInv (N := N) (pw := pw) (e := e) (nz := nz) (i + d) (by omega)
      have hcn := (inv.reach (by omega) hz h0 k).1 hr
      rw [← ih] at h
      obtain ⟨j, hj, hjk⟩ := (inv.has k hk).1 h
      exact (inv.has (i + d) (by omega)).2 ⟨j, hj, hjk.trans hcn.symm⟩ h0
    · exact (lb_skip hc).1 k

/-- The final number of a pixel, and how many parts there are in all. -/
noncomputable def fin (N pw : Nat) (e : Bool) (nz : Nat → Bool) (k : Nat) : Int := lb N pw e nz N k

theorem fin_of {i k : Nat} (hi : i ≤ N) (hk : k < N) (h : lb N pw e nz i k ≠ 0) : fin N pw e nz k = lb N pw e nz i k := by
  have := lb_stay hi hk h (N - i) (by omega)
  rwa [show i + (N - i) = N by omega] at this
theorem fin_ne {k : Nat} (hk : k < N) : fin N pw e nz k ≠ 0 ↔ nz k = true := by
  unfold fin
  rw [(labInv N (Nat.le_refl _)).has k hk]
  exact ⟨fun ⟨_, _, h⟩ => h.right.2, fun h => ⟨k, hk, .base hk h⟩⟩
theorem fin_zero {k : Nat} (hk : k < N) : fin N pw e nz k = 0 ↔ nz k = false := by
  have := fin_ne (pw := pw) (e := e) (nz := nz) hk
  constructor
  · intro h
    cases hz : nz k with
    | false => rfl
    | true => exact (this.2 hz h).elim
  · intro h
    exact Classical.byContradiction fun hne => by rw [this.1 hne] at h; cases h
theorem fin_same {k l : Nat} (hk : k < N) (hl : l < N) (hne : fin N pw e nz k ≠ 0) : fin N pw e nz l = fin N pw e nz k ↔ Conn N pw e nz k l := (labInv N (Nat.le_refl _)).same k l hk hl hne
theorem fin_bd (k : Nat) : 0 ≤ fin N pw e nz k ∧ fin N pw e nz k ≤ (ln N pw e nz N : Int) := lb_bd N k
/-- The number of pixel i is known as soon as it has been seen. -/
theorem fin_at {i : Nat} (hi : i < N) : fin N pw e nz i = lb N pw e nz (i + 1) i := by
  have inv := labInv (N := N) (pw := pw) (e := e) (nz := nz) (i + 1) (by omega)
  cases hz : nz i with
  | true => exact fin_of (by omega) hi ((inv.has i hi).2 ⟨i, by omega, .base hi hz⟩)
  | false =>
    rw [(fin_zero hi).2 hz]
    refine (Classical.byContradiction fun hne => ?_ : lb N pw e nz (i + 1) i = 0).symm
    obtain ⟨j, _, h⟩ := (inv.has i hi).1 hne
    rw [h.right.2] at hz; cases hz
/-- How many parts there are after one more pixel: the greatest number so far. -/
theorem ln_max {i : Nat} (hi : i < N) : (ln N pw e nz (i + 1) : Int) = max (ln N pw e nz i : Int) (fin N pw e nz i) ∧ fin N pw e nz i ≤ (ln N pw e nz i : Int) + 1 := by
  have hb := lb_bd (N := N) (pw := pw) (e := e) (nz := nz) (i + 1) i
  rw [fin_at hi]
  by_cases hc : nz i = true ∧ lb N pw e nz i i = 0
  · obtain ⟨hn, hk⟩ := lb_new hc.1 hc.2
    rw [(hk i hi).1 .base, hn]
    omega
  · rw [(lb_skip hc).2] at hb ⊢
    omega
theorem ln_mono {i : Nat} (hi : i < N) : ln N pw e nz i ≤ ln N pw e nz (i + 1) ∧ ln N pw e nz (i + 1) ≤ ln N pw e nz i + 1 := by
  have := ln_max (pw := pw) (e := e) (nz := nz) hi
  omega

/-- Neighbours have equal numbers, if both have any. -/
theorem fin_near {k l : Nat} (hk : k < N) (hl : l < N) (h : nearB pw e k l = true) (hkz : fin N pw e nz k ≠ 0) (hlz : fin N pw e nz l ≠ 0) : fin N pw e nz l = fin N pw e nz k :=
  (fin_same hk hl hkz).2 (.near hk ((fin_ne hk).1 hkz) hl h ((fin_ne hl).1 hlz))
end

section
variable {N pw : Nat} {nz : Nat → Bool}
/-- Each part in the sense of eight consists of whole parts in the sense of four. -/
theorem fin_eight {k l : Nat} (hk : k < N) (hl : l < N) (hne : fin N pw false nz k ≠ 0) (h : fin N pw false nz l = fin N pw false nz k) : fin N pw true nz l = fin N pw true nz k :=
  (fin_same hk hl ((fin_ne hk).2 ((fin_ne hk).1 hne))).2 ((fin_same hk hl hne).1 h).eight
theorem ln_eight : ∀ (i : Nat), i ≤ N → ln N pw true nz i ≤ ln N pw false nz i
  | 0, _ => Nat.le_refl _
  | i + 1, hi => by
    have ih := ln_eight i (by omega)
    by_cases hc : nz i = true ∧ lb N pw true nz i i = 0
    · have h4 : lb N pw false nz i i = 0 := Classical.byContradiction fun hne => by
        obtain ⟨j, hj, h⟩ := ((labInv i (by omega)).has i (by omega)).1 hne
        exact ((labInv i (by omega)).has i (by omega)).2 ⟨j, hj, h.eight⟩ hc.2
      rw [(lb_new hc.1 hc.2).1, (lb_new hc.1 h4).1]
      omega
    · rw [(lb_skip hc).2]
      have := (ln_mono (pw := pw) (e := false) (nz := nz) (show i < N by omega)).1
      omega
end

/-! ### One part goes away -/

/-- The numbers after one of them has gone. -/
def less (p v : Int) : Int := if v = p then 0 else if p < v then v - 1 else v
theorem less_zero {p : Int} (hp : 1 ≤ p) : less p 0 = 0 := by unfold less; split <;> (try split) <;> omega
theorem less_pos {p v : Int} (hp : 1 ≤ p) (hv : 0 ≤ v) (h0 : v ≠ 0) (hne : v ≠ p) : less p v ≠ 0 := by unfold less; split <;> (try split) <;> omega

section
variable {N pw : Nat} {e : Bool} {nz : Nat → Bool}
/-- The pixels that are left. -/
noncomputable def leftNz (N pw : Nat) (e : Bool) (nz : Nat → Bool) (p : Int) (k : Nat) : Bool := nz k && decide (fin N pw e nz k ≠ p)

theorem lb_less {p : Int} (hp : 1 ≤ p) : ∀ (i : Nat), i ≤ N →
    (∀ k, k < N → lb N pw e (leftNz N pw e nz p) i k = less p (lb N pw e nz i k)) ∧ (ln N pw e (leftNz N pw e nz p) i : Int) = if p ≤ (ln N pw e nz i : Int) then (ln N pw e nz i : Int) - 1 else ln N pw e nz i
  | 0, _ => ⟨fun k _ => by rw [lb_zero, lb_zero, less_zero hp], by rw [ln_zero, ln_zero]; split <;> omega⟩
  | i + 1, hi => by
    obtain ⟨ihb, ihn⟩ := lb_less hp i (by omega)
    have hi' : i < N := by omega
    have bi := lb_bd (N := N) (pw := pw) (e := e) (nz := nz) i i
    by_cases hc : nz i = true ∧ lb N pw e nz i i = 0
    · obtain ⟨hz, h0⟩ := hc
      obtain ⟨hn, hk⟩ := lb_new hz h0
      have inv := labInv (N := N) (pw := pw) (e := e) (nz := nz) i (by omega)
      have hfi : fin N pw e nz i = ((ln N pw e nz i + 1 : Nat) : Int) := by rw [fin_at hi', (hk i hi').1 .base]
      by_cases hpn : ((ln N pw e nz i + 1 : Nat) : Int) = p
      · have hl : leftNz N pw e nz p i = false := by unfold leftNz; rw [hfi]; simp [hpn]
        obtain ⟨sb, sn⟩ := lb_skip (N := N) (pw := pw) (e := e) (nz := leftNz N pw e nz p) (i := i) (by rw [hl]; simp)
        refine ⟨fun k hkN => ?_, ?_⟩
        · rw [sb, ihb k hkN]
          by_cases hr : Reach N pw e nz (fun j => lb N pw e nz i j) i k
          · rw [(hk k hkN).1 hr]
            have : lb N pw e nz i k = 0 := Classical.byContradiction fun hne => by
              obtain ⟨j, hj, h⟩ := (inv.has k hkN).1 hne
              exact (inv.has i hi').2 ⟨j, hj, h.trans ((inv.reach hi' hz h0 k).1 hr).symm⟩ h0
            rw [this, less_zero hp, hpn]
            unfold less
            rw [if_pos rfl]
          · rw [(hk k hkN).2 hr]
        · rw [sn, ihn, hn, if_neg (by omega), if_pos (by omega)]
          omega
      · have hl : leftNz N pw e nz p i = true := by unfold leftNz; rw [hfi, hz, decide_eq_true hpn]; rfl
        have h0' : lb N pw e (leftNz N pw e nz p) i i = 0 := by rw [ihb i hi', h0, less_zero hp]
        obtain ⟨hn', hk'⟩ := lb_new hl h0'
        have hnum : ((ln N pw e (leftNz N pw e nz p) i + 1 : Nat) : Int) = less p ((ln N pw e nz i + 1 : Nat) : Int) := by
          unfold less
          rw [if_neg hpn, Int.natCast_add, ihn]
          by_cases hle : p ≤ (ln N pw e nz i : Int)
          · rw [if_pos hle, if_pos (by omega)]; omega
          · rw [if_neg hle, if_neg (by omega)]; omega
        have hreach : ∀ k, Reach N pw e (leftNz N pw e nz p) (fun j => lb N pw e (leftNz N pw e nz p) i j) i k ↔ Reach N pw e nz (fun j => lb N pw e nz i j) i k := by
          intro k
          constructor
          · intro hr
            induction hr with
            | base => exact .base
            | @step j l h1 h2 h3 h4 h5 ih =>
              have h4' := h4
              unfold leftNz at h4'
              rw [Bool.and_eq_true, decide_eq_true_eq] at h4'
              refine ih.step h2 h3 h4'.1 (Classical.byContradiction fun hne => ?_)
              have hne' : lb N pw e nz i l ≠ 0 := hne
              have hf := fin_of (by omega) h2 hne'
              have h5' : lb N pw e (leftNz N pw e nz p) i l = 0 := h5
              rw [ihb l h2] at h5'
              exact less_pos hp (lb_bd i _).1 hne' (by rw [← hf]; exact h4'.2) h5'
          · intro hr
            induction hr with
            | base => exact .base
            | @step j l h1 h2 h3 h4 h5 ih =>
              have h5' : lb N pw e nz i l = 0 := h5
              have hr2 := h1.step h2 h3 h4 h5
              have hfl : fin N pw e nz l = ((ln N pw e nz i + 1 : Nat) : Int) := by
                have h6 := (hk l h2).1 hr2
                rw [fin_of (i := i + 1) (by omega) h2 (by rw [h6]; omega), h6]
              refine ih.step h2 h3 ?_ ?_
              · unfold leftNz; rw [h4, hfl, decide_eq_true hpn]; rfl
              · show lb N pw e (leftNz N pw e nz p) i l = 0
                rw [ihb l h2, h5', less_zero hp]
        refine ⟨fun k hkN => ?_, ?_⟩
        · by_cases hr : Reach N pw e nz (fun j => lb N pw e nz i j) i k
          · rw [(hk k hkN).1 hr, (hk' k hkN).1 ((hreach k).2 hr), hnum]
          · rw [(hk k hkN).2 hr, (hk' k hkN).2 fun h => hr ((hreach k).1 h), ihb k hkN]
        · rw [hn', hn, Int.natCast_add, ihn]
          by_cases hle : p ≤ (ln N pw e nz i : Int)
          · rw [if_pos hle, if_pos (by omega)]; omega
          · rw [if_neg hle, if_neg (by omega)]; omega
    · obtain ⟨sb, sn⟩ := lb_skip hc
      have hc' : ¬ (leftNz N pw e nz p i = true ∧ lb N pw e (leftNz N pw e nz p) i i = 0) := by
        rintro ⟨h1, h2⟩
        unfold leftNz at h1
        rw [Bool.and_eq_true, decide_eq_true_eq] at h1
        rw [ihb i hi'] at h2
        have hne : lb N pw e nz i i ≠ 0 := fun h => hc ⟨h1.1, h⟩
        exact less_pos hp bi.1 hne (by rw [← fin_of (by omega) hi' hne]; exact h1.2) h2
      obtain ⟨sb', sn'⟩ := lb_skip hc'
      exact ⟨fun k hkN => by rw [sb', sb, ihb k hkN], by rw [sn', sn, ihn]⟩
end

end Go.Proofs.Ytjglfeonoiljlaa
namespace Go.Proofs.Ytjglfeonoiljlaa
open Go Go.RowKit Go.Shelf
set_option linter.unusedVariables false
set_option linter.unusedSimpArgs false

/-- The table of the numbers in the sense of eight, by those in the sense of four, after the first k pixels. -/
structure TP (n : Nat) (A B T : List Int) (k : Nat) : Prop where
  len : T.length = n + 1
  put : ∀ j, j < k → px T (px A j) = px B j
  none : ∀ x : Nat, x ≤ n → px T x = 0 ∨ ∃ j, j < k ∧ px A j = (x : Int)
theorem TP.zero {n : Nat} {A B : List Int} : TP n A B (List.replicate (n + 1) 0) 0 where
  len := by simp
  put j hj := by omega
  none x hx := .inl (by rw [px_nat, List.getElem?_replicate]; split <;> rfl)
theorem TP.step {n : Nat} {A B T : List Int} {k X : Nat} (h : TP n A B T k) (hb : ∀ j : Nat, 0 ≤ px A j) (hX : X ≤ n) (hA : px A k = (X : Int)) (hc : ∀ j, j < k → px A j = px A k → px B j = px B k) : TP n A B (T.set X (px B k)) (k + 1) where
  len := by rw [List.length_set, h.len]
  put j hj := by
    have hl : X < T.length := by rw [h.len]; omega
    by_cases e : px A j = px A k
    · rw [e, hA, px_set _ hl, if_pos rfl]
      by_cases ej : j = k
      · subst ej; rfl
      · exact (hc j (by omega) e).symm
    · have ej : j ≠ k := fun h => e (by rw [h])
      rw [← h.put j (by omega)]
      obtain ⟨x, hx⟩ : ∃ x : Nat, px A j = (x : Int) := ⟨(px A j).toNat, by have := hb j; omega⟩
      rw [hx, px_set _ hl, if_neg]
      intro hxX
      rw [hx, hA, hxX] at e
      exact e rfl
  none x hx := by
    have hl : X < T.length := by rw [h.len]; omega
    rw [px_set _ hl]
    by_cases e : x = X
    · exact .inr ⟨k, by omega, by rw [hA, e]⟩
    · rw [if_neg e]
      rcases h.none x hx with h1 | ⟨j, h1, h2⟩
      · exact .inl h1
      · exact .inr ⟨j, by omega, h2⟩
theorem TP.look {n : Nat} {A B T : List Int} {k X : Nat} (h : TP n A B T k) (hX : X ≤ n) (hA : px A k = (X : Int)) (hc : ∀ j, j < k → px A j = px A k → px B j = px B k) : px T X = 0 ∨ px T X = px B k := by
  rcases h.none X hX with h1 | ⟨j, h1, h2⟩
  · exact .inl h1
  · refine .inr ?_
    rw [← hc j h1 (by rw [h2, hA]), ← h.put j h1, h2]

set_option maxRecDepth 100000 in
set_option maxHeartbeats 16000000 in
theorem law_labelled (iw ih : Int) (a : Option Addr) (c n : Nat) (xs : List Int) (hn : Hid (xs.length = n)) (w : World) (hm : n ≤ 9223372036854775807) (hr : Rd w.heap.size w a xs) :
    Calls Try.prog 10 #[imv iw ih a n c] w fun e w' => e = .returned (.bool true) ∧ Below w.heap.size w w' := by
  obtain ⟨i0, hi, hz0, hz1, hz2⟩ := info_parts info_int
  obtain ⟨zv, hzv0⟩ : ∃ v, vld iw ih xs = v := ⟨_, rfl⟩
  have hzv := Lib.hid hzv0
  clear hzv0
  cases zv with
  | false =>
    have hSA := Lib.hid (show labS iw ih xs false = { im := { w := 0, h := 0, px := [], err := 20 }, n := 0 } by unfold labS; rw [if_neg (by rw [hzv.out]; decide)]; rfl)
    have hSB := Lib.hid (show labS iw ih xs true = { im := { w := 0, h := 0, px := [], err := 20 }, n := 0 } by unfold labS; rw [if_neg (by rw [hzv.out]; decide)]; rfl)
    have hlD := Lib.hid (show ([] : List Int).length = 0 from rfl)
    have hB : Below w.heap.size w (w.alloc (.cells #[.int .i64 iw, .int .i64 ih, .slice a n c] 24)) := below_al (Below.refl _ _) _
    have ka := (Blk.new w 24 #[.int .i64 iw, .int .i64 ih, .slice a n c])
    obtain ⟨W0, hW⟩ : ∃ W, (w.alloc (.cells #[.int .i64 iw, .int .i64 ih, .slice a n c] 24)) = W := ⟨_, rfl⟩
    rw [hW] at hB ka
    have m0 := ka.cell (i := 0) rfl
    have m1 := ka.cell (i := 1) rfl
    have m2 := ka.cell (i := 2) rfl
    go_enter Try.func10, Try.ntmps10
    go_wp2_with fail
    clear hW
    refine (alive_any _).mono ?_
    rintro e V1 ⟨rfl, hb⟩
    clear m0 m1 m2
    replace ka := ka.below hb ka.lt
    replace hB := hB.trans (hb.mono hB.size)
    have m0 := ka.cell (i := 0) rfl
    have m1 := ka.cell (i := 1) rfl
    have m2 := ka.cell (i := 2) rfl
    clear hb
    go_wp2_with fail
    have hcall := Label_any iw ih a c n xs hn false _ (by omega) ((hr.below (Nat.le_refl _) hB).mono hB.size)
    rw [hSA.out] at hcall
    refine hcall.mono ?_
    clear hcall
    rintro e V2 ⟨⟨v, hev, sl, hvl, hrow⟩, hb⟩
    have rA : V2.ownsRow w.heap.size 3 1 sl 0 ((([] : List Int)).map (Value.int .i64)) := row_base (row_len (k := (([] : List Int)).length) hlD.out hrow) hB.size
    obtain ⟨srAa, srAc, rfl⟩ := row_slice rA
    have he : e = .returned (.tuple #[.agg #[.int .i64 0, .int .i64 0, .slice srAa 0 srAc], .int .i64 0, .int .i64 20]) := by rw [hev, hvl]
    subst he
    clear hrow hev hvl
    clear m0 m1 m2
    replace ka := ka.below hb ka.lt
    replace hB := hB.trans (hb.mono hB.size)
    have m0 := ka.cell (i := 0) rfl
    have m1 := ka.cell (i := 1) rfl
    have m2 := ka.cell (i := 2) rfl
    clear hb
    obtain ⟨V3, hW⟩ : ∃ V3, V2.alloc (.cells #[.int .i64 0, .int .i64 0, .slice srAa 0 srAc] 24) = V3 := ⟨_, rfl⟩
    obtain ⟨bkA, hbx⟩ : ∃ bkA, V2.heap.size = bkA := ⟨_, rfl⟩
    have kA := Blk.new V2 24 #[.int .i64 0, .int .i64 0, .slice srAa 0 srAc]
    rw [hW, hbx] at kA
    have hb : Below V2.heap.size V2 V3 := alloc_below hW
    have ka' := ka.below hb ka.lt
    have lkakA := ka.lt
    rw [hbx] at lkakA
    have m0' := ka'.cell (i := 0) rfl
    have m1' := ka'.cell (i := 1) rfl
    have m2' := ka'.cell (i := 2) rfl
    have xa0 := kA.cell (i := 0) rfl
    have xa1 := kA.cell (i := 1) rfl
    have xa2 := kA.cell (i := 2) rfl
    have fxa0 := kA.frozen 0
    have fxa1 := kA.frozen 1
    have fxa2 := kA.frozen 2
    go_wp2_with fail
    clear hW
    clear hbx
    clear m0 m1 m2
    clear m0' m1' m2'
    replace ka := ka'
    clear ka'
    have m0 := ka.cell (i := 0) rfl
    have m1 := ka.cell (i := 1) rfl
    have m2 := ka.cell (i := 2) rfl
    replace rA := row_below rA hb
    replace hB := hB.trans (hb.mono hB.size)
    clear hb
    have hcall := Label_any iw ih a c n xs hn true _ (by omega) ((hr.below (Nat.le_refl _) hB).mono hB.size)
    rw [hSB.out] at hcall
    refine hcall.mono ?_
    clear hcall
    rintro e V4 ⟨⟨v, hev, sl, hvl, hrow⟩, hb⟩
    have rB : V4.ownsRow w.heap.size 3 1 sl 0 ((([] : List Int)).map (Value.int .i64)) := row_base (row_len (k := (([] : List Int)).length) hlD.out hrow) hB.size
    obtain ⟨srBa, srBc, rfl⟩ := row_slice rB
    have he : e = .returned (.tuple #[.agg #[.int .i64 0, .int .i64 0, .slice srBa 0 srBc], .int .i64 0, .int .i64 20]) := by rw [hev, hvl]
    subst he
    clear hrow hev hvl
    clear m0 m1 m2 xa0 xa1 xa2 fxa0 fxa1 fxa2
    replace ka := ka.below hb ka.lt
    replace kA := kA.below hb kA.lt
    replace rA := row_below rA hb
    replace hB := hB.trans (hb.mono hB.size)
    have m0 := ka.cell (i := 0) rfl
    have m1 := ka.cell (i := 1) rfl
    have m2 := ka.cell (i := 2) rfl
    have xa0 := kA.cell (i := 0) rfl
    have xa1 := kA.cell (i := 1) rfl
    have xa2 := kA.cell (i := 2) rfl
    have fxa0 := kA.frozen 0
    have fxa1 := kA.frozen 1
    have fxa2 := kA.frozen 2
    clear hb
    obtain ⟨V5, hW⟩ : ∃ V5, V4.alloc (.cells #[.int .i64 0, .int .i64 0, .slice srBa 0 srBc] 24) = V5 := ⟨_, rfl⟩
    obtain ⟨bkB, hbx⟩ : ∃ bkB, V4.heap.size = bkB := ⟨_, rfl⟩
    have kB := Blk.new V4 24 #[.int .i64 0, .int .i64 0, .slice srBa 0 srBc]
    rw [hW, hbx] at kB
    have hb : Below V4.heap.size V4 V5 := alloc_below hW
    have ka' := ka.below hb ka.lt
    have lkakB := ka.lt
    rw [hbx] at lkakB
    have kA' := kA.below hb kA.lt
    have lkAkB := kA.lt
    rw [hbx] at lkAkB
    have m0' := ka'.cell (i := 0) rfl
    have m1' := ka'.cell (i := 1) rfl
    have m2' := ka'.cell (i := 2) rfl
    have xa0' := kA'.cell (i := 0) rfl
    have xa1' := kA'.cell (i := 1) rfl
    have xa2' := kA'.cell (i := 2) rfl
    have fxa0' := kA'.frozen 0
    have fxa1' := kA'.frozen 1
    have fxa2' := kA'.frozen 2
    have xb0 := kB.cell (i := 0) rfl
    have xb1 := kB.cell (i := 1) rfl
    have xb2 := kB.cell (i := 2) rfl
    have fxb0 := kB.frozen 0
    have fxb1 := kB.frozen 1
    have fxb2 := kB.frozen 2
    go_wp2_with fail
    clear hW
    clear hbx
    clear m0 m1 m2 xa0 xa1 xa2 fxa0 fxa1 fxa2
    clear m0' m1' m2' xa0' xa1' xa2' fxa0' fxa1' fxa2'
    replace ka := ka'
    clear ka'
    replace kA := kA'
    clear kA'
    have m0 := ka.cell (i := 0) rfl
    have m1 := ka.cell (i := 1) rfl
    have m2 := ka.cell (i := 2) rfl
    have xa0 := kA.cell (i := 0) rfl
    have xa1 := kA.cell (i := 1) rfl
    have xa2 := kA.cell (i := 2) rfl
    have fxa0 := kA.frozen 0
    have fxa1 := kA.frozen 1
    have fxa2 := kA.frozen 2
    replace rA := row_below rA hb
    replace rB := row_below rB hb
    replace hB := hB.trans (hb.mono hB.size)
    clear hb
    refine (Valid_any iw ih a c xs n hn _ (by omega) ((hr.below (Nat.le_refl _) hB).mono hB.size)).mono ?_
    rintro e V8 ⟨rfl, hb⟩
    rw [hzv.out]
    clear m0 m1 m2 xa0 xa1 xa2 fxa0 fxa1 fxa2 xb0 xb1 xb2 fxb0 fxb1 fxb2
    replace ka := ka.below hb ka.lt
    replace kA := kA.below hb kA.lt
    replace kB := kB.below hb kB.lt
    replace rA := row_below rA hb
    replace rB := row_below rB hb
    replace hB := hB.trans (hb.mono hB.size)
    have m0 := ka.cell (i := 0) rfl
    have m1 := ka.cell (i := 1) rfl
    have m2 := ka.cell (i := 2) rfl
    have xa0 := kA.cell (i := 0) rfl
    have xa1 := kA.cell (i := 1) rfl
    have xa2 := kA.cell (i := 2) rfl
    have fxa0 := kA.frozen 0
    have fxa1 := kA.frozen 1
    have fxa2 := kA.frozen 2
    have xb0 := kB.cell (i := 0) rfl
    have xb1 := kB.cell (i := 1) rfl
    have xb2 := kB.cell (i := 2) rfl
    have fxb0 := kB.frozen 0
    have fxb1 := kB.frozen 1
    have fxb2 := kB.frozen 2
    clear hb
    go_wp2_with fail
    go_ret
    exact ⟨rfl, hB⟩
  | true =>
    obtain ⟨⟨i1, i2⟩, ⟨i3, i4⟩, hl, ha⟩ := vld_true hzv.out
    obtain ⟨pw, rfl⟩ : ∃ pw : Nat, iw = (pw : Int) := ⟨iw.toNat, by omega⟩
    obtain ⟨ph, rfl⟩ : ∃ ph : Nat, ih = (ph : Int) := ⟨ih.toNat, by omega⟩
    have hN : pw * ph = n := by
      have h2 : ((pw * ph : Nat) : Int) = (pw : Int) * ph := by simp
      have := hn.out
      omega
    have hn0 : 0 < n := by rw [← hN]; exact Nat.mul_pos (by omega) (by omega)
    have hn256 : n ≤ 256 := by rw [← hN]; exact Nat.mul_le_mul (show pw ≤ 16 by omega) (show ph ≤ 16 by omega)
    obtain ⟨nz, hnz⟩ : ∃ f, isNz xs = f := ⟨_, rfl⟩
    have hnzx : ∀ k : Nat, nz k = true ↔ px xs k ≠ 0 := fun k => by rw [← hnz]; unfold isNz; exact decide_eq_true_iff
    have hSe := fun e => show labS pw ph xs e = { im := { w := pw, h := ph, px := (labTo n pw e nz n).1, err := 0 }, n := (ln n pw e nz n : Nat) } by
      unfold labS ln
      rw [if_pos hzv.out]
      simp only [Int.toNat_natCast, hN, hnz]
    have hSA := Lib.hid (hSe false)
    have hSB := Lib.hid (hSe true)
    have hlA := Lib.hid (show (labTo n pw false nz n).1.length = n from labTo_len n)
    have hlB := Lib.hid (show (labTo n pw true nz n).1.length = n from labTo_len n)
    have hF : ∀ (e : Bool) (k : Nat), px (labTo n pw e nz n).1 k = fin n pw e nz k := fun _ _ => rfl
    have hzi : ∀ (e : Bool) (k : Nat), k < n → (fin n pw e nz k = 0 ↔ px xs k = 0) := fun e k hk => by
      rw [fin_zero hk]
      have := hnzx k
      cases hz : nz k with
      | true => rw [hz] at this; simp at this; simp [this]
      | false => rw [hz] at this; simp at this; simp [this]
    have hlab := Lib.hid (fun (k : Nat) (hk : k < n) => show (px (labTo n pw false nz n).1 k = 0 ↔ px xs k = 0) ∧ (px (labTo n pw true nz n).1 k = 0 ↔ px xs k = 0) ∧
        (ln n pw false nz (k + 1) : Int) = max (ln n pw false nz k : Int) (px (labTo n pw false nz n).1 k) ∧ px (labTo n pw false nz n).1 k ≤ (ln n pw false nz k : Int) + 1 ∧
        (ln n pw true nz (k + 1) : Int) = max (ln n pw true nz k : Int) (px (labTo n pw true nz n).1 k) ∧ px (labTo n pw true nz n).1 k ≤ (ln n pw true nz k : Int) + 1 from
      ⟨hzi false k hk, hzi true k hk, (ln_max hk).1, (ln_max hk).2, (ln_max hk).1, (ln_max hk).2⟩)
    have hln : ∀ (e : Bool) (i : Nat), ln n pw e nz i ≤ i := fun e i => labTo_n i
    have habd := Lib.hid (fun k : Nat => show 0 ≤ px (labTo n pw false nz n).1 k ∧ px (labTo n pw false nz n).1 k ≤ (n : Int) ∧ 0 ≤ px (labTo n pw true nz n).1 k ∧ px (labTo n pw true nz n).1 k ≤ (n : Int) by
      have h1 := fin_bd (N := n) (pw := pw) (e := false) (nz := nz) k
      have h2 := fin_bd (N := n) (pw := pw) (e := true) (nz := nz) k
      have h3 := hln false n
      have h4 := hln true n
      rw [hF, hF]
      omega)
    have hnbr := Lib.hid (fun (k : Nat) (hk : k < n) (j : Nat) (hj : j ∈ nbrL pw ph k) => show j < n ∧ (px (labTo n pw false nz n).1 k ≠ 0 → px (labTo n pw false nz n).1 j ≠ 0 → px (labTo n pw false nz n).1 j = px (labTo n pw false nz n).1 k) by
      have h1 := nbrL_near (show k < pw * ph by rw [hN]; exact hk) hj
      rw [hN] at h1
      exact ⟨h1.1, fun h2 h3 => fin_near hk h1.1 h1.2 h2 h3⟩)
    have habs := Lib.hid (fun (j k : Nat) (hj : j < n) (hk : k < n) (h0 : px (labTo n pw false nz n).1 k ≠ 0) (h : px (labTo n pw false nz n).1 j = px (labTo n pw false nz n).1 k) => show px (labTo n pw true nz n).1 j = px (labTo n pw true nz n).1 k from fin_eight hk hj h0 h)
    have hzz := Lib.hid (fun (j : Nat) (hj : j < n) (h : px (labTo n pw false nz n).1 j = 0) => show px (labTo n pw true nz n).1 j = 0 from (hzi true j hj).2 ((hzi false j hj).1 h))
    have hGS := Lib.hid (fun i : Nat => show ln n pw true nz i ≤ ln n pw false nz i ∨ n < i by
      by_cases h : i ≤ n
      · exact .inl (ln_eight i h)
      · exact .inr (by omega))
    have hSb := Lib.hid (fun i : Nat => fun (_ : i ≤ n) => hln false i)
    have hS0 := Lib.hid (show ln n pw false nz 0 = 0 from rfl)
    have hG0 := Lib.hid (show ln n pw true nz 0 = 0 from rfl)
    have hNH := Lib.hid hN
    obtain ⟨ba, oa, hae, hba, hca⟩ := rd_at hr hn.out hn0
    have hcaH := Lib.hid hca
    clear hca hl ha hN hnz hnzx hSe hF hzi hln
    generalize (labTo n pw false nz n).1 = A at *
    generalize (labTo n pw true nz n).1 = B at *
    generalize ln n pw false nz = S at *
    generalize ln n pw true nz = G at *
    subst hae
    have hB : Below w.heap.size w (w.alloc (.cells #[.int .i64 pw, .int .i64 ph, .slice (some ⟨ba, oa, none⟩) n c] 24)) := below_al (Below.refl _ _) _
    have ka := (Blk.new w 24 #[.int .i64 pw, .int .i64 ph, .slice (some ⟨ba, oa, none⟩) n c])
    obtain ⟨W0, hW⟩ : ∃ W, (w.alloc (.cells #[.int .i64 pw, .int .i64 ph, .slice (some ⟨ba, oa, none⟩) n c] 24)) = W := ⟨_, rfl⟩
    rw [hW] at hB ka
    have m0 := ka.cell (i := 0) rfl
    have m1 := ka.cell (i := 1) rfl
    have m2 := ka.cell (i := 2) rfl
    go_enter Try.func10, Try.ntmps10
    go_wp2_with fail
    clear hW
    refine (alive_any _).mono ?_
    rintro e V1 ⟨rfl, hb⟩
    clear m0 m1 m2
    replace ka := ka.below hb ka.lt
    replace hB := hB.trans (hb.mono hB.size)
    have m0 := ka.cell (i := 0) rfl
    have m1 := ka.cell (i := 1) rfl
    have m2 := ka.cell (i := 2) rfl
    clear hb
    go_wp2_with fail
    have hcall := Label_any pw ph (some ⟨ba, oa, none⟩) c n xs hn false _ (by omega) ((hr.below (Nat.le_refl _) hB).mono hB.size)
    rw [hSA.out] at hcall
    refine hcall.mono ?_
    clear hcall
    rintro e V2 ⟨⟨v, hev, sl, hvl, hrow⟩, hb⟩
    have rA : V2.ownsRow w.heap.size 3 1 sl n ((A).map (Value.int .i64)) := row_base (row_len (k := (A).length) hlA.out hrow) hB.size
    obtain ⟨srAa, srAc, rfl⟩ := row_slice rA
    have he : e = .returned (.tuple #[.agg #[.int .i64 pw, .int .i64 ph, .slice srAa n srAc], .int .i64 (S n : Int), .int .i64 0]) := by rw [hev, hvl]
    subst he
    clear hrow hev hvl
    clear m0 m1 m2
    replace ka := ka.below hb ka.lt
    replace hB := hB.trans (hb.mono hB.size)
    have m0 := ka.cell (i := 0) rfl
    have m1 := ka.cell (i := 1) rfl
    have m2 := ka.cell (i := 2) rfl
    clear hb
    obtain ⟨V3, hW⟩ : ∃ V3, V2.alloc (.cells #[.int .i64 pw, .int .i64 ph, .slice srAa n srAc] 24) = V3 := ⟨_, rfl⟩
    obtain ⟨bkA, hbx⟩ : ∃ bkA, V2.heap.size = bkA := ⟨_, rfl⟩
    have kA := Blk.new V2 24 #[.int .i64 pw, .int .i64 ph, .slice srAa n srAc]
    rw [hW, hbx] at kA
    have hb : Below V2.heap.size V2 V3 := alloc_below hW
    have ka' := ka.below hb ka.lt
    have lkakA := ka.lt
    rw [hbx] at lkakA
    have m0' := ka'.cell (i := 0) rfl
    have m1' := ka'.cell (i := 1) rfl
    have m2' := ka'.cell (i := 2) rfl
    have xa0 := kA.cell (i := 0) rfl
    have xa1 := kA.cell (i := 1) rfl
    have xa2 := kA.cell (i := 2) rfl
    have fxa0 := kA.frozen 0
    have fxa1 := kA.frozen 1
    have fxa2 := kA.frozen 2
    go_wp2_with fail
    clear hW
    clear hbx
    clear m0 m1 m2
    clear m0' m1' m2'
    replace ka := ka'
    clear ka'
    have m0 := ka.cell (i := 0) rfl
    have m1 := ka.cell (i := 1) rfl
    have m2 := ka.cell (i := 2) rfl
    replace rA := row_below rA hb
    replace hB := hB.trans (hb.mono hB.size)
    clear hb
    have hcall := Label_any pw ph (some ⟨ba, oa, none⟩) c n xs hn true _ (by omega) ((hr.below (Nat.le_refl _) hB).mono hB.size)
    rw [hSB.out] at hcall
    refine hcall.mono ?_
    clear hcall
    rintro e V4 ⟨⟨v, hev, sl, hvl, hrow⟩, hb⟩
    have rB : V4.ownsRow w.heap.size 3 1 sl n ((B).map (Value.int .i64)) := row_base (row_len (k := (B).length) hlB.out hrow) hB.size
    obtain ⟨srBa, srBc, rfl⟩ := row_slice rB
    have he : e = .returned (.tuple #[.agg #[.int .i64 pw, .int .i64 ph, .slice srBa n srBc], .int .i64 (G n : Int), .int .i64 0]) := by rw [hev, hvl]
    subst he
    clear hrow hev hvl
    clear m0 m1 m2 xa0 xa1 xa2 fxa0 fxa1 fxa2
    replace ka := ka.below hb ka.lt
    replace kA := kA.below hb kA.lt
    replace rA := row_below rA hb
    replace hB := hB.trans (hb.mono hB.size)
    have m0 := ka.cell (i := 0) rfl
    have m1 := ka.cell (i := 1) rfl
    have m2 := ka.cell (i := 2) rfl
    have xa0 := kA.cell (i := 0) rfl
    have xa1 := kA.cell (i := 1) rfl
    have xa2 := kA.cell (i := 2) rfl
    have fxa0 := kA.frozen 0
    have fxa1 := kA.frozen 1
    have fxa2 := kA.frozen 2
    clear hb
    obtain ⟨V5, hW⟩ : ∃ V5, V4.alloc (.cells #[.int .i64 pw, .int .i64 ph, .slice srBa n srBc] 24) = V5 := ⟨_, rfl⟩
    obtain ⟨bkB, hbx⟩ : ∃ bkB, V4.heap.size = bkB := ⟨_, rfl⟩
    have kB := Blk.new V4 24 #[.int .i64 pw, .int .i64 ph, .slice srBa n srBc]
    rw [hW, hbx] at kB
    have hb : Below V4.heap.size V4 V5 := alloc_below hW
    have ka' := ka.below hb ka.lt
    have lkakB := ka.lt
    rw [hbx] at lkakB
    have kA' := kA.below hb kA.lt
    have lkAkB := kA.lt
    rw [hbx] at lkAkB
    have m0' := ka'.cell (i := 0) rfl
    have m1' := ka'.cell (i := 1) rfl
    have m2' := ka'.cell (i := 2) rfl
    have xa0' := kA'.cell (i := 0) rfl
    have xa1' := kA'.cell (i := 1) rfl
    have xa2' := kA'.cell (i := 2) rfl
    have fxa0' := kA'.frozen 0
    have fxa1' := kA'.frozen 1
    have fxa2' := kA'.frozen 2
    have xb0 := kB.cell (i := 0) rfl
    have xb1 := kB.cell (i := 1) rfl
    have xb2 := kB.cell (i := 2) rfl
    have fxb0 := kB.frozen 0
    have fxb1 := kB.frozen 1
    have fxb2 := kB.frozen 2
    go_wp2_with fail
    clear hW
    clear hbx
    clear m0 m1 m2 xa0 xa1 xa2 fxa0 fxa1 fxa2
    clear m0' m1' m2' xa0' xa1' xa2' fxa0' fxa1' fxa2'
    replace ka := ka'
    clear ka'
    replace kA := kA'
    clear kA'
    have m0 := ka.cell (i := 0) rfl
    have m1 := ka.cell (i := 1) rfl
    have m2 := ka.cell (i := 2) rfl
    have xa0 := kA.cell (i := 0) rfl
    have xa1 := kA.cell (i := 1) rfl
    have xa2 := kA.cell (i := 2) rfl
    have fxa0 := kA.frozen 0
    have fxa1 := kA.frozen 1
    have fxa2 := kA.frozen 2
    replace rA := row_below rA hb
    replace rB := row_below rB hb
    replace hB := hB.trans (hb.mono hB.size)
    clear hb
    refine (Valid_any pw ph (some ⟨ba, oa, none⟩) c xs n hn _ (by omega) ((hr.below (Nat.le_refl _) hB).mono hB.size)).mono ?_
    rintro e V8 ⟨rfl, hb⟩
    rw [hzv.out]
    clear m0 m1 m2 xa0 xa1 xa2 fxa0 fxa1 fxa2 xb0 xb1 xb2 fxb0 fxb1 fxb2
    replace ka := ka.below hb ka.lt
    replace kA := kA.below hb kA.lt
    replace kB := kB.below hb kB.lt
    replace rA := row_below rA hb
    replace rB := row_below rB hb
    replace hB := hB.trans (hb.mono hB.size)
    have m0 := ka.cell (i := 0) rfl
    have m1 := ka.cell (i := 1) rfl
    have m2 := ka.cell (i := 2) rfl
    have xa0 := kA.cell (i := 0) rfl
    have xa1 := kA.cell (i := 1) rfl
    have xa2 := kA.cell (i := 2) rfl
    have fxa0 := kA.frozen 0
    have fxa1 := kA.frozen 1
    have fxa2 := kA.frozen 2
    have xb0 := kB.cell (i := 0) rfl
    have xb1 := kB.cell (i := 1) rfl
    have xb2 := kB.cell (i := 2) rfl
    have fxb0 := kB.frozen 0
    have fxb1 := kB.frozen 1
    have fxb2 := kB.frozen 2
    clear hb
    have hSG := hGS.out n
    have hSG1 : decide ((S n : Int) < (G n : Int)) = false := decide_eq_false (by omega)
    have hSG2 : decide (S n < G n) = false := decide_eq_false (by omega)
    go_wp2_with (at_make; refine wpList_make_full _ rfl _ _ 22 rfl w.heap.size 3 i0 (.int .i64 0) 1 Try.underlying22 hi hz0 hz1 .i64 .i64 ((n : Int) + 1) ((n : Int) + 1) (n + 1) rfl rfl (by simp) (by simp) (by rw [hz2]; omega) (by unfold maxLen; omega) hB.size ?_; intro w1 hown hg)
    clear m0 m1 m2 xa0 xa1 xa2 fxa0 fxa1 fxa2 xb0 xb1 xb2 fxb0 fxb1 fxb2
    clear hSG1 hSG2
    have rowT : w1.ownsRow w.heap.size 3 1 (.slice (some ⟨V8.heap.size, 0, none⟩) (n + 1) (n + 1)) (n + 1) ((List.replicate (n + 1) (0 : Int)).map (Value.int .i64)) := by
      rw [List.map_replicate]
      have h := hown
      rw [show (n + 1) * 1 = n + 1 by omega, show (Value.int .i64 0).cells = #[.int .i64 0] from rfl, toList_madeCells_one] at h
      exact h
    have hB9 : Below V8.heap.size V8 w1 := (Below.refl _ _).grown hg (Nat.le_refl _) (fun k e => by cases e)
    clear hown hg
    obtain ⟨bA, oA, hAa, hbA, hcA⟩ := rd_at (row_rd' hlA.out rA) hlA.out hn0
    subst hAa
    have hcAH := Lib.hid hcA
    clear hcA
    obtain ⟨bB, oB, hBa, hbB, hcB⟩ := rd_at (row_rd' hlB.out rB) hlB.out hn0
    subst hBa
    have hcBH := Lib.hid hcB
    clear hcB rA rB
    go_loopw [10, 11, 13] (fun s f i wr => ∃ (k : Nat) (T : List Int), k ≤ n ∧ i = .int .i64 (k : Int) ∧ s = .int .i64 (S k : Int) ∧ f = .int .i64 (G k : Int) ∧ TP n A B T k ∧ Below V8.heap.size V8 wr ∧ wr.ownsRow w.heap.size 3 1 (.slice (some ⟨V8.heap.size, 0, none⟩) (n + 1) (n + 1)) (n + 1) (T.map (Value.int .i64))) (fun s f i _ => n - (intOf i).toNat)
    case atStart => exact ⟨0, List.replicate (n + 1) 0, Nat.zero_le _, rfl, by rw [hS0.out]; rfl, by rw [hG0.out]; rfl, TP.zero, hB9, rowT⟩
    case round =>
      clear rowT hB9
      obtain ⟨k, T, hkn, rfl, rfl, rfl, hTP, hBw, rowT⟩ := hrel
      have hBr : Below w.heap.size w wr := hB.trans (hBw.mono hB.size)
      have ka' := ka.below hBw ka.lt
      have kA' := kA.below hBw kA.lt
      have kB' := kB.below hBw kB.lt
      have m2 := ka'.cell (i := 2) rfl
      have hS : Below wr.heap.size wr wr.drew := (Below.refl _ _).drew
      by_cases hk : k < n
      · obtain ⟨hxz, hyz, hs1, hx2, hs2, hy2⟩ := hlab.out k hk
        have hSk := hSb.out k (by omega)
        have hGk := hGS.out k
        have hxb := habd.out k
        obtain ⟨xv, hxv0⟩ : ∃ v, px A (k : Int) = v := ⟨_, rfl⟩
        obtain ⟨yv, hyv0⟩ : ∃ v, px B (k : Int) = v := ⟨_, rfl⟩
        obtain ⟨pv, hpv0⟩ : ∃ v, px xs (k : Int) = v := ⟨_, rfl⟩
        rw [hxv0, hyv0] at hxb
        rw [hxv0, hpv0] at hxz
        rw [hyv0, hpv0] at hyz
        rw [hxv0] at hs1 hx2
        rw [hyv0] at hs2 hy2
        obtain ⟨hxb1, hxb2, hyb1, hyb2⟩ := hxb
        have hsk0 : 0 ≤ (S k : Int) ∧ (S k : Int) ≤ 256 := by omega
        have hgk0 : 0 ≤ (G k : Int) ∧ (G k : Int) ≤ 256 := by omega
        obtain ⟨sk, hsk⟩ : ∃ v : Int, (S k : Int) = v := ⟨_, rfl⟩
        obtain ⟨gk, hgk⟩ : ∃ v : Int, (G k : Int) = v := ⟨_, rfl⟩
        rw [hsk] at hs1 hx2 hsk0 ⊢
        rw [hgk] at hs2 hy2 hgk0 ⊢
        clear hsk hgk hSk hGk
        obtain ⟨hsk1, hsk2⟩ := hsk0
        obtain ⟨hgk1, hgk2⟩ := hgk0
        have hxv := Lib.hid hxv0
        have hyv := Lib.hid hyv0
        have hpv := Lib.hid hpv0
        clear hxv0 hyv0 hpv0
        by_cases hp0 : pv = 0
        · obtain rfl : xv = 0 := hxz.2 hp0
          obtain rfl : yv = 0 := hyz.2 hp0
          subst hp0
          have hTP2 : Hid (TP n A B (T.set 0 0) (k + 1)) := Lib.hid (by have := hTP.step (X := 0) (fun j => (habd.out j).1) (by omega) hxv.out (fun j hj h => by rw [hyv.out]; exact hzz.out j (by omega) (by rw [h, hxv.out])); rw [hyv.out] at this; exact this)
          have e1 : decide (sk + 1 < 0) = false := decide_eq_false (by omega)
          have e2 : decide (gk + 1 < 0) = false := decide_eq_false (by omega)
          have hSs : Hid ((S (k + 1) : Int) = sk) := Lib.hid (by omega)
          have hGs : Hid ((G (k + 1) : Int) = gk) := Lib.hid (by omega)
          have em1 : max sk 0 = sk := by omega
          have em2 : max gk 0 = gk := by omega
          clear hxz hyz hs1 hs2 hx2 hy2
          go_wp2_with fail
          clear m2
          refine plain_region (fun W' => Below wr.heap.size wr W') 12 12 (by kernel_rfl) rfl ?_
          simp only [Array.replicate_succ, Array.replicate_zero, List.push_toArray, List.nil_append, List.cons_append]
          refine take_op 0 (v := ?zv0) rfl (by kernel_rfl) (fun _ _ _ h => h) (by rfl) hS (fun w' hS' => ?zy0) ?zz0
          case zy0 =>
            go_simp
            rfl
          simp only [List.setIfInBounds_toArray, List.set_cons_zero, List.set_cons_succ]
          refine take_op 1 (v := ?zv1) rfl (by kernel_rfl) (fun _ _ _ h => h) (by rfl) hS (fun w' hS' => ?zy1) ?zz1
          case zy1 =>
            have xa2 := (kA'.below hS' kA'.lt).cell (i := 2) rfl
            have xb2 := (kB'.below hS' kB'.lt).cell (i := 2) rfl
            have cA := ((hBw.trans (hS'.mono hBw.size)).cell (p := ⟨bA, oA + k, none⟩) hbA).trans (hcAH.out k hk)
            have cB := ((hBw.trans (hS'.mono hBw.size)).cell (p := ⟨bB, oB + k, none⟩) hbB).trans (hcBH.out k hk)
            rw [hxv.out] at cA
            rw [hyv.out] at cB
            go_simp
            rfl
          simp only [List.setIfInBounds_toArray, List.set_cons_zero, List.set_cons_succ]
          refine take_op 2 (v := ?zv2) rfl (by kernel_rfl) (fun _ _ _ h => h) (by rfl) hS (fun w' hS' => ?zy2) ?zz2
          case zy2 =>
            go_simp
            rfl
          simp only [List.setIfInBounds_toArray, List.set_cons_zero, List.set_cons_succ]
          refine take_op 3 (v := ?zv3) rfl (by kernel_rfl) (fun _ _ _ h => h) (by rfl) hS (fun w' hS' => ?zy3) ?zz3
          case zy3 =>
            go_simp
            try go_ints
            first
            | rfl
            | rw [if_pos ⟨by omega, by omega⟩]
          simp only [List.setIfInBounds_toArray, List.set_cons_zero, List.set_cons_succ]
          refine take_op 4 (v := ?zv4) rfl (by kernel_rfl) (fun _ _ _ h => h) (by rfl) hS (fun w' hS' => ?zy4) ?zz4
          case zy4 =>
            have xa2 := (kA'.below hS' kA'.lt).cell (i := 2) rfl
            have xb2 := (kB'.below hS' kB'.lt).cell (i := 2) rfl
            have cA := ((hBw.trans (hS'.mono hBw.size)).cell (p := ⟨bA, oA + k, none⟩) hbA).trans (hcAH.out k hk)
            have cB := ((hBw.trans (hS'.mono hBw.size)).cell (p := ⟨bB, oB + k, none⟩) hbB).trans (hcBH.out k hk)
            rw [hxv.out] at cA
            rw [hyv.out] at cB
            go_simp
            rfl
          simp only [List.setIfInBounds_toArray, List.set_cons_zero, List.set_cons_succ]
          refine take_op 5 (v := ?zv5) rfl (by kernel_rfl) (fun _ _ _ h => h) (by rfl) hS (fun w' hS' => ?zy5) ?zz5
          case zy5 =>
            go_simp
            rfl
          simp only [List.setIfInBounds_toArray, List.set_cons_zero, List.set_cons_succ]
          refine take_op 6 (v := ?zv6) rfl (by kernel_rfl) (fun _ _ _ h => h) (by rfl) hS (fun w' hS' => ?zy6) ?zz6
          case zy6 =>
            have xa2 := (kA'.below hS' kA'.lt).cell (i := 2) rfl
            have xb2 := (kB'.below hS' kB'.lt).cell (i := 2) rfl
            have cA := ((hBw.trans (hS'.mono hBw.size)).cell (p := ⟨bA, oA + k, none⟩) hbA).trans (hcAH.out k hk)
            have cB := ((hBw.trans (hS'.mono hBw.size)).cell (p := ⟨bB, oB + k, none⟩) hbB).trans (hcBH.out k hk)
            rw [hxv.out] at cA
            rw [hyv.out] at cB
            go_simp
            rfl
          simp only [List.setIfInBounds_toArray, List.set_cons_zero, List.set_cons_succ]
          refine take_op 7 (v := ?zv7) rfl (by kernel_rfl) (fun _ _ _ h => h) (by rfl) hS (fun w' hS' => ?zy7) ?zz7
          case zy7 =>
            go_simp
            rfl
          simp only [List.setIfInBounds_toArray, List.set_cons_zero, List.set_cons_succ]
          refine take_op 8 (v := ?zv8) rfl (by kernel_rfl) (fun _ _ _ h => h) (by rfl) hS (fun w' hS' => ?zy8) ?zz8
          case zy8 =>
            go_simp
            try go_ints
            first
            | rfl
            | rw [if_pos ⟨by omega, by omega⟩]
          simp only [List.setIfInBounds_toArray, List.set_cons_zero, List.set_cons_succ]
          refine take_op 9 (v := ?zv9) rfl (by kernel_rfl) (fun _ _ _ h => h) (by rfl) hS (fun w' hS' => ?zy9) ?zz9
          case zy9 =>
            have xa2 := (kA'.below hS' kA'.lt).cell (i := 2) rfl
            have xb2 := (kB'.below hS' kB'.lt).cell (i := 2) rfl
            have cA := ((hBw.trans (hS'.mono hBw.size)).cell (p := ⟨bA, oA + k, none⟩) hbA).trans (hcAH.out k hk)
            have cB := ((hBw.trans (hS'.mono hBw.size)).cell (p := ⟨bB, oB + k, none⟩) hbB).trans (hcBH.out k hk)
            rw [hxv.out] at cA
            rw [hyv.out] at cB
            go_simp
            rfl
          simp only [List.setIfInBounds_toArray, List.set_cons_zero, List.set_cons_succ]
          refine take_op 10 (v := ?zv10) rfl (by kernel_rfl) (fun _ _ _ h => h) (by rfl) hS (fun w' hS' => ?zy10) ?zz10
          case zy10 =>
            go_simp
            rfl
          simp only [List.setIfInBounds_toArray, List.set_cons_zero, List.set_cons_succ]
          refine take_op 11 (v := ?zv11) rfl (by kernel_rfl) (fun _ _ _ h => h) (by rfl) hS (fun w' hS' => ?zy11) ?zz11
          case zy11 =>
            go_simp
            rfl
          simp only [List.setIfInBounds_toArray, List.set_cons_zero, List.set_cons_succ]
          refine done_ops (by kernel_rfl) ?_
          obtain ⟨wd, hwd⟩ : ∃ X, wr.drew = X := ⟨_, rfl⟩
          rw [hwd] at hS ⊢
          clear hwd
          have row4 := row_below rowT hS
          have hfr := row4.frozenAt 0
          have ct := row4.cellAt 0 (by omega)
          have ct2 : wd.cell? ⟨V8.heap.size, 0, none⟩ = some (.int .i64 (px T 0)) := by rw [ct, List.getElem?_map, List.getElem?_eq_getElem (by rw [hTP.len]; omega), show px T 0 = px T ((0 : Nat) : Int) from rfl, px_nat, List.getElem?_eq_getElem (by rw [hTP.len]; omega)]; rfl
          clear ct
          have m2 := (ka'.below hS ka'.lt).cell (i := 2) rfl
          have m1 := (ka'.below hS ka'.lt).cell (i := 1) rfl
          have m0 := (ka'.below hS ka'.lt).cell (i := 0) rfl
          have ca := ((hBr.trans (hS.mono hBr.size)).cell (p := ⟨ba, oa + k, none⟩) hba).trans (hcaH.out k hk)
          rw [hpv.out] at ca
          have kas := (ka'.below hS ka'.lt).other (a := ⟨V8.heap.size, 0, none⟩) (by show w.heap.size ≠ V8.heap.size; have := ka.lt; omega) (.int .i64 0)
          have n0 := kas.cell (i := 0) rfl
          have n1 := kas.cell (i := 1) rfl
          have n2 := kas.cell (i := 2) rfl
          have hn1 : (0 : Int) < (n : Int) + 1 := by omega
          go_wp2_with fail
          refine (lneighbours_any pw ph k (some ⟨ba, oa, none⟩) c n (by omega) (by omega) (by omega) (by omega) (by rw [hNH.out]; exact hk) _).mono ?_
          rintro e V12 ⟨⟨va, vc, rfl, hL⟩, hb⟩
          have hst := row4.stored 0 (.int .i64 0)
          have row5 := row_below hst.1 hb
          rw [map_set_int] at row5
          have hB12 : Below V8.heap.size V8 V12 := ((hBw.trans (hS.mono hBw.size)).setCell (p := ⟨V8.heap.size, 0, none⟩) (Nat.le_refl _) (.int .i64 0)).trans (hb.mono ((hBw.trans (hS.mono hBw.size)).setCell (p := ⟨V8.heap.size, 0, none⟩) (Nat.le_refl _) (.int .i64 0)).size)
          have kA1 := kA.below hB12 kA.lt
          clear hb hst row4 m2 m1 m0 n2 n1 n0 kas ca ct2 hfr
          obtain ⟨LL, hLL⟩ : ∃ LL, nbrL pw ph k = LL := ⟨_, rfl⟩
          have hnb : Hid (∀ j, j ∈ LL → j < n ∧ (px A k ≠ 0 → px A j ≠ 0 → px A j = px A k)) := Lib.hid (by rw [← hLL]; exact hnbr.out k hk)
          rw [hLL] at hL ⊢
          have hl4 : LL.length ≤ 4 := by rw [← hLL]; exact nbrL_length _ _ _
          clear hLL
          go_wp2_with fail
          go_loopw [17] (fun i wr => ∃ q : Nat, q ≤ LL.length ∧ i = .int .i64 (q : Int) ∧ Below V12.heap.size V12 wr) (fun i _ => LL.length - (intOf i).toNat)
          case atStart => exact ⟨0, Nat.zero_le _, rfl, Below.refl _ _⟩
          case round =>
            clear hBr hS
            obtain ⟨q, hq, rfl, hBL⟩ := hrel
            have hBq := hB12.trans (hBL.mono hB12.size)
            have kA2 := kA1.below hBL kA1.lt
            by_cases hql : q < LL.length
            · obtain ⟨j, hj⟩ : ∃ j, LL[q]? = some j := ⟨_, List.getElem?_eq_getElem hql⟩
              obtain ⟨hjn, hjs⟩ := hnb.out j (List.mem_of_getElem? hj)
              obtain ⟨bL, oL, hLa, hbL, hcl0⟩ := rowN_at hL hj
              subst hLa
              have hclH : Hid (V12.cell? ⟨bL, oL + q, none⟩ = some (.int .i64 (j : Int))) := Lib.hid hcl0
              obtain ⟨jv, hjv0⟩ : ∃ v, px A (j : Int) = v := ⟨_, rfl⟩
              rw [hjv0, hxv.out] at hjs
              have hj0 := (habd.out j).1
              rw [hjv0] at hj0
              have hjv := Lib.hid hjv0
              clear hj hcl0 hjv0
              have hS2 : Below wr.heap.size wr wr.drew := (Below.refl _ _).drew
              clear hjs
              go_wp2_with fail
              refine plain_region (fun W' => Below wr.heap.size wr W') 25 25 (by kernel_rfl) rfl ?_
              simp only [Array.replicate_succ, Array.replicate_zero, List.push_toArray, List.nil_append, List.cons_append]
              refine take_op 0 (v := ?zav0) rfl (by kernel_rfl) (fun _ _ _ h => h) (by rfl) hS2 (fun w' hS' => ?zay0) ?zaz0
              case zay0 =>
                go_simp
                rfl
              simp only [List.setIfInBounds_toArray, List.set_cons_zero, List.set_cons_succ]
              refine take_op 1 (v := .bool false) rfl (by kernel_rfl) (fun _ _ _ h => h) (by rfl) hS2 (fun w' hS' => ?zay1) ?zaz1
              case zay1 =>
                go_simp
                try rfl
              simp only [List.setIfInBounds_toArray, List.set_cons_zero, List.set_cons_succ]
              refine take_op 2 (v := ?zav2) rfl (by kernel_rfl) (fun _ _ _ h => h) (by rfl) hS2 (fun w' hS' => ?zay2) ?zaz2
              case zay2 =>
                go_simp
                rfl
              simp only [List.setIfInBounds_toArray, List.set_cons_zero, List.set_cons_succ]
              refine pass_op 3 rfl (by kernel_rfl) (fun _ _ _ h => h) (by rfl) hS2 ?_
              simp only [List.setIfInBounds_toArray, List.set_cons_zero, List.set_cons_succ]
              refine pass_op 4 rfl (by kernel_rfl) (fun _ _ _ h => h) (by rfl) hS2 ?_
              simp only [List.setIfInBounds_toArray, List.set_cons_zero, List.set_cons_succ]
              refine pass_op 5 rfl (by kernel_rfl) (fun _ _ _ h => h) (by rfl) hS2 ?_
              simp only [List.setIfInBounds_toArray, List.set_cons_zero, List.set_cons_succ]
              refine pass_op 6 rfl (by kernel_rfl) (fun _ _ _ h => h) (by rfl) hS2 ?_
              simp only [List.setIfInBounds_toArray, List.set_cons_zero, List.set_cons_succ]
              refine pass_op 7 rfl (by kernel_rfl) (fun _ _ _ h => h) (by rfl) hS2 ?_
              simp only [List.setIfInBounds_toArray, List.set_cons_zero, List.set_cons_succ]
              refine pass_op 8 rfl (by kernel_rfl) (fun _ _ _ h => h) (by rfl) hS2 ?_
              simp only [List.setIfInBounds_toArray, List.set_cons_zero, List.set_cons_succ]
              refine pass_op 9 rfl (by kernel_rfl) (fun _ _ _ h => h) (by rfl) hS2 ?_
              simp only [List.setIfInBounds_toArray, List.set_cons_zero, List.set_cons_succ]
              refine pass_op 10 rfl (by kernel_rfl) (fun _ _ _ h => h) (by rfl) hS2 ?_
              simp only [List.setIfInBounds_toArray, List.set_cons_zero, List.set_cons_succ]
              refine pass_op 11 rfl (by kernel_rfl) (fun _ _ _ h => h) (by rfl) hS2 ?_
              simp only [List.setIfInBounds_toArray, List.set_cons_zero, List.set_cons_succ]
              refine take_op 12 (v := ?zav12) rfl (by kernel_rfl) (fun _ _ _ h => h) (by rfl) hS2 (fun w' hS' => ?zay12) ?zaz12
              case zay12 =>
                go_simp
                rfl
              simp only [List.setIfInBounds_toArray, List.set_cons_zero, List.set_cons_succ]
              refine take_op 13 (v := ?zav13) rfl (by kernel_rfl) (fun _ _ _ h => h) (by rfl) hS2 (fun w' hS' => ?zay13) ?zaz13
              case zay13 =>
                go_simp
                rfl
              simp only [List.setIfInBounds_toArray, List.set_cons_zero, List.set_cons_succ]
              refine pass_op 14 rfl (by kernel_rfl) (fun _ _ _ h => h) (by rfl) hS2 ?_
              simp only [List.setIfInBounds_toArray, List.set_cons_zero, List.set_cons_succ]
              refine pass_op 15 rfl (by kernel_rfl) (fun _ _ _ h => h) (by rfl) hS2 ?_
              simp only [List.setIfInBounds_toArray, List.set_cons_zero, List.set_cons_succ]
              refine pass_op 16 rfl (by kernel_rfl) (fun _ _ _ h => h) (by rfl) hS2 ?_
              simp only [List.setIfInBounds_toArray, List.set_cons_zero, List.set_cons_succ]
              refine pass_op 17 rfl (by kernel_rfl) (fun _ _ _ h => h) (by rfl) hS2 ?_
              simp only [List.setIfInBounds_toArray, List.set_cons_zero, List.set_cons_succ]
              refine pass_op 18 rfl (by kernel_rfl) (fun _ _ _ h => h) (by rfl) hS2 ?_
              simp only [List.setIfInBounds_toArray, List.set_cons_zero, List.set_cons_succ]
              refine pass_op 19 rfl (by kernel_rfl) (fun _ _ _ h => h) (by rfl) hS2 ?_
              simp only [List.setIfInBounds_toArray, List.set_cons_zero, List.set_cons_succ]
              refine pass_op 20 rfl (by kernel_rfl) (fun _ _ _ h => h) (by rfl) hS2 ?_
              simp only [List.setIfInBounds_toArray, List.set_cons_zero, List.set_cons_succ]
              refine pass_op 21 rfl (by kernel_rfl) (fun _ _ _ h => h) (by rfl) hS2 ?_
              simp only [List.setIfInBounds_toArray, List.set_cons_zero, List.set_cons_succ]
              refine pass_op 22 rfl (by kernel_rfl) (fun _ _ _ h => h) (by rfl) hS2 ?_
              simp only [List.setIfInBounds_toArray, List.set_cons_zero, List.set_cons_succ]
              refine pass_op 23 rfl (by kernel_rfl) (fun _ _ _ h => h) (by rfl) hS2 ?_
              simp only [List.setIfInBounds_toArray, List.set_cons_zero, List.set_cons_succ]
              refine take_op 24 (v := ?zav24) rfl (by kernel_rfl) (fun _ _ _ h => h) (by rfl) hS2 (fun w' hS' => ?zay24) ?zaz24
              case zay24 =>
                go_simp
                rfl
              simp only [List.setIfInBounds_toArray, List.set_cons_zero, List.set_cons_succ]
              refine done_ops (by kernel_rfl) ?_
              go_wp2_with fail
              go_roundw
              case rel => exact ⟨q + 1, by omega, by go_num, hBL.trans (hS2.mono hBL.size)⟩
              case measure => simp [intOf]; omega
            · have hqq : q = LL.length := by omega
              subst hqq
              go_wp2_with fail
              go_roundw
              case rel => exact ⟨k + 1, (T.set 0 0), by omega, by go_num, by rw [hSs.out], by rw [hGs.out], hTP2.out, hBq, row_below row5 hBL⟩
              case measure => simp [intOf]; omega
        · have hx0 : 0 < xv := by have : ¬ xv = 0 := fun h => hp0 (hxz.1 h); omega
          have hy0 : 0 < yv := by have : ¬ yv = 0 := fun h => hp0 (hyz.1 h); omega
          obtain ⟨X, rfl⟩ : ∃ X : Nat, xv = (X : Int) := ⟨xv.toNat, by omega⟩
          have hTX := hTP.look (X := X) (by omega) hxv.out (fun j hj h => habs.out j k (by omega) hk (by rw [hxv.out]; omega) h)
          have hTP2 : Hid (TP n A B (T.set X yv) (k + 1)) := Lib.hid (by have := hTP.step (X := X) (fun j => (habd.out j).1) (by omega) hxv.out (fun j hj h => habs.out j k (by omega) hk (by rw [hxv.out]; omega) h); rw [hyv.out] at this; exact this)
          rw [hyv.out] at hTX
          have a1 : ((X : Int) == 0) = false := by rw [beq_eq_false_iff_ne]; omega
          have a2 : (yv == 0) = false := by rw [beq_eq_false_iff_ne]; omega
          have a3 : (pv == 0) = false := by rw [beq_eq_false_iff_ne]; exact hp0
          have a4 : decide ((X : Int) < 0) = false := decide_eq_false (by omega)
          have a5 : decide (yv < 0) = false := decide_eq_false (by omega)
          have e1 : decide (sk + 1 < (X : Int)) = false := decide_eq_false (by omega)
          have e2 : decide (gk + 1 < yv) = false := decide_eq_false (by omega)
          have hxp : decide (0 < (X : Int)) = true := decide_eq_true hx0
          have hXn : X < n + 1 := by omega
          have hXn2 : (X : Int) < (n : Int) + 1 := by omega
          have hX0 : 0 < X := by omega
          have a6 : (X == 0) = false := by rw [beq_eq_false_iff_ne]; omega
          have hxp2 : decide (0 < X) = true := decide_eq_true hX0
          obtain ⟨s1, hs1v⟩ : ∃ v : Int, (S (k + 1) : Int) = v := ⟨_, rfl⟩
          obtain ⟨g1, hg1v⟩ : ∃ v : Int, (G (k + 1) : Int) = v := ⟨_, rfl⟩
          have em1 : max sk (X : Int) = s1 := by rw [← hs1v]; exact hs1.symm
          have em2 : max gk yv = g1 := by rw [← hg1v]; exact hs2.symm
          have hSs := Lib.hid hs1v
          have hGs := Lib.hid hg1v
          clear hs1v hg1v
          obtain ⟨tv, htv0⟩ : ∃ v, px T (X : Int) = v := ⟨_, rfl⟩
          rw [htv0] at hTX
          have htv := Lib.hid htv0
          clear hxz hyz hs1 hs2 htv0 hp0
          go_wp2_with fail
          clear m2
          refine plain_region (fun W' => Below wr.heap.size wr W') 12 12 (by kernel_rfl) rfl ?_
          simp only [Array.replicate_succ, Array.replicate_zero, List.push_toArray, List.nil_append, List.cons_append]
          refine take_op 0 (v := ?pv0) rfl (by kernel_rfl) (fun _ _ _ h => h) (by rfl) hS (fun w' hS' => ?py0) ?pz0
          case py0 =>
            go_simp
            rfl
          simp only [List.setIfInBounds_toArray, List.set_cons_zero, List.set_cons_succ]
          refine take_op 1 (v := ?pv1) rfl (by kernel_rfl) (fun _ _ _ h => h) (by rfl) hS (fun w' hS' => ?py1) ?pz1
          case py1 =>
            have xa2 := (kA'.below hS' kA'.lt).cell (i := 2) rfl
            have xb2 := (kB'.below hS' kB'.lt).cell (i := 2) rfl
            have cA := ((hBw.trans (hS'.mono hBw.size)).cell (p := ⟨bA, oA + k, none⟩) hbA).trans (hcAH.out k hk)
            have cB := ((hBw.trans (hS'.mono hBw.size)).cell (p := ⟨bB, oB + k, none⟩) hbB).trans (hcBH.out k hk)
            rw [hxv.out] at cA
            rw [hyv.out] at cB
            go_simp
            rfl
          simp only [List.setIfInBounds_toArray, List.set_cons_zero, List.set_cons_succ]
          refine take_op 2 (v := ?pv2) rfl (by kernel_rfl) (fun _ _ _ h => h) (by rfl) hS (fun w' hS' => ?py2) ?pz2
          case py2 =>
            go_simp
            rfl
          simp only [List.setIfInBounds_toArray, List.set_cons_zero, List.set_cons_succ]
          refine take_op 3 (v := ?pv3) rfl (by kernel_rfl) (fun _ _ _ h => h) (by rfl) hS (fun w' hS' => ?py3) ?pz3
          case py3 =>
            go_simp
            try go_ints
            first
            | rfl
            | rw [if_pos ⟨by omega, by omega⟩]
          simp only [List.setIfInBounds_toArray, List.set_cons_zero, List.set_cons_succ]
          refine take_op 4 (v := ?pv4) rfl (by kernel_rfl) (fun _ _ _ h => h) (by rfl) hS (fun w' hS' => ?py4) ?pz4
          case py4 =>
            have xa2 := (kA'.below hS' kA'.lt).cell (i := 2) rfl
            have xb2 := (kB'.below hS' kB'.lt).cell (i := 2) rfl
            have cA := ((hBw.trans (hS'.mono hBw.size)).cell (p := ⟨bA, oA + k, none⟩) hbA).trans (hcAH.out k hk)
            have cB := ((hBw.trans (hS'.mono hBw.size)).cell (p := ⟨bB, oB + k, none⟩) hbB).trans (hcBH.out k hk)
            rw [hxv.out] at cA
            rw [hyv.out] at cB
            go_simp
            rfl
          simp only [List.setIfInBounds_toArray, List.set_cons_zero, List.set_cons_succ]
          refine take_op 5 (v := ?pv5) rfl (by kernel_rfl) (fun _ _ _ h => h) (by rfl) hS (fun w' hS' => ?py5) ?pz5
          case py5 =>
            go_simp
            rfl
          simp only [List.setIfInBounds_toArray, List.set_cons_zero, List.set_cons_succ]
          refine take_op 6 (v := ?pv6) rfl (by kernel_rfl) (fun _ _ _ h => h) (by rfl) hS (fun w' hS' => ?py6) ?pz6
          case py6 =>
            have xa2 := (kA'.below hS' kA'.lt).cell (i := 2) rfl
            have xb2 := (kB'.below hS' kB'.lt).cell (i := 2) rfl
            have cA := ((hBw.trans (hS'.mono hBw.size)).cell (p := ⟨bA, oA + k, none⟩) hbA).trans (hcAH.out k hk)
            have cB := ((hBw.trans (hS'.mono hBw.size)).cell (p := ⟨bB, oB + k, none⟩) hbB).trans (hcBH.out k hk)
            rw [hxv.out] at cA
            rw [hyv.out] at cB
            go_simp
            rfl
          simp only [List.setIfInBounds_toArray, List.set_cons_zero, List.set_cons_succ]
          refine take_op 7 (v := ?pv7) rfl (by kernel_rfl) (fun _ _ _ h => h) (by rfl) hS (fun w' hS' => ?py7) ?pz7
          case py7 =>
            go_simp
            rfl
          simp only [List.setIfInBounds_toArray, List.set_cons_zero, List.set_cons_succ]
          refine take_op 8 (v := ?pv8) rfl (by kernel_rfl) (fun _ _ _ h => h) (by rfl) hS (fun w' hS' => ?py8) ?pz8
          case py8 =>
            go_simp
            try go_ints
            first
            | rfl
            | rw [if_pos ⟨by omega, by omega⟩]
          simp only [List.setIfInBounds_toArray, List.set_cons_zero, List.set_cons_succ]
          refine take_op 9 (v := ?pv9) rfl (by kernel_rfl) (fun _ _ _ h => h) (by rfl) hS (fun w' hS' => ?py9) ?pz9
          case py9 =>
            have xa2 := (kA'.below hS' kA'.lt).cell (i := 2) rfl
            have xb2 := (kB'.below hS' kB'.lt).cell (i := 2) rfl
            have cA := ((hBw.trans (hS'.mono hBw.size)).cell (p := ⟨bA, oA + k, none⟩) hbA).trans (hcAH.out k hk)
            have cB := ((hBw.trans (hS'.mono hBw.size)).cell (p := ⟨bB, oB + k, none⟩) hbB).trans (hcBH.out k hk)
            rw [hxv.out] at cA
            rw [hyv.out] at cB
            go_simp
            rfl
          simp only [List.setIfInBounds_toArray, List.set_cons_zero, List.set_cons_succ]
          refine take_op 10 (v := ?pv10) rfl (by kernel_rfl) (fun _ _ _ h => h) (by rfl) hS (fun w' hS' => ?py10) ?pz10
          case py10 =>
            go_simp
            rfl
          simp only [List.setIfInBounds_toArray, List.set_cons_zero, List.set_cons_succ]
          refine take_op 11 (v := ?pv11) rfl (by kernel_rfl) (fun _ _ _ h => h) (by rfl) hS (fun w' hS' => ?py11) ?pz11
          case py11 =>
            go_simp
            rfl
          simp only [List.setIfInBounds_toArray, List.set_cons_zero, List.set_cons_succ]
          refine done_ops (by kernel_rfl) ?_
          obtain ⟨wd, hwd⟩ : ∃ X, wr.drew = X := ⟨_, rfl⟩
          rw [hwd] at hS ⊢
          clear hwd
          have row4 := row_below rowT hS
          have hfr := row4.frozenAt X
          have ct := row4.cellAt X (by omega)
          have ct2 : wd.cell? ⟨V8.heap.size, X, none⟩ = some (.int .i64 tv) := by rw [ct, List.getElem?_map, List.getElem?_eq_getElem (by rw [hTP.len]; exact hXn), ← htv.out, px_nat, List.getElem?_eq_getElem (by rw [hTP.len]; exact hXn)]; rfl
          clear ct
          have m2 := (ka'.below hS ka'.lt).cell (i := 2) rfl
          have m1 := (ka'.below hS ka'.lt).cell (i := 1) rfl
          have m0 := (ka'.below hS ka'.lt).cell (i := 0) rfl
          have ca := ((hBr.trans (hS.mono hBr.size)).cell (p := ⟨ba, oa + k, none⟩) hba).trans (hcaH.out k hk)
          rw [hpv.out] at ca
          have kas := (ka'.below hS ka'.lt).other (a := ⟨V8.heap.size, X, none⟩) (by show w.heap.size ≠ V8.heap.size; have := ka.lt; omega) (.int .i64 yv)
          have n0 := kas.cell (i := 0) rfl
          have n1 := kas.cell (i := 1) rfl
          have n2 := kas.cell (i := 2) rfl
          by_cases ht0 : tv = 0
          · subst ht0
            clear hTX
            go_wp2_with fail
            refine (lneighbours_any pw ph k (some ⟨ba, oa, none⟩) c n (by omega) (by omega) (by omega) (by omega) (by rw [hNH.out]; exact hk) _).mono ?_
            rintro e V12 ⟨⟨va, vc, rfl, hL⟩, hb⟩
            have hst := row4.stored X (.int .i64 yv)
            have row5 := row_below hst.1 hb
            rw [map_set_int] at row5
            have hB12 : Below V8.heap.size V8 V12 := ((hBw.trans (hS.mono hBw.size)).setCell (p := ⟨V8.heap.size, X, none⟩) (Nat.le_refl _) (.int .i64 yv)).trans (hb.mono ((hBw.trans (hS.mono hBw.size)).setCell (p := ⟨V8.heap.size, X, none⟩) (Nat.le_refl _) (.int .i64 yv)).size)
            have kA1 := kA.below hB12 kA.lt
            clear hb hst row4 m2 m1 m0 n2 n1 n0 kas ca ct2 hfr
            obtain ⟨LL, hLL⟩ : ∃ LL, nbrL pw ph k = LL := ⟨_, rfl⟩
            have hnb : Hid (∀ j, j ∈ LL → j < n ∧ (px A k ≠ 0 → px A j ≠ 0 → px A j = px A k)) := Lib.hid (by rw [← hLL]; exact hnbr.out k hk)
            rw [hLL] at hL ⊢
            have hl4 : LL.length ≤ 4 := by rw [← hLL]; exact nbrL_length _ _ _
            clear hLL
            go_wp2_with fail
            go_loopw [17] (fun i wr => ∃ q : Nat, q ≤ LL.length ∧ i = .int .i64 (q : Int) ∧ Below V12.heap.size V12 wr) (fun i _ => LL.length - (intOf i).toNat)
            case atStart => exact ⟨0, Nat.zero_le _, rfl, Below.refl _ _⟩
            case round =>
              clear hBr hS
              obtain ⟨q, hq, rfl, hBL⟩ := hrel
              have hBq := hB12.trans (hBL.mono hB12.size)
              have kA2 := kA1.below hBL kA1.lt
              by_cases hql : q < LL.length
              · obtain ⟨j, hj⟩ : ∃ j, LL[q]? = some j := ⟨_, List.getElem?_eq_getElem hql⟩
                obtain ⟨hjn, hjs⟩ := hnb.out j (List.mem_of_getElem? hj)
                obtain ⟨bL, oL, hLa, hbL, hcl0⟩ := rowN_at hL hj
                subst hLa
                have hclH : Hid (V12.cell? ⟨bL, oL + q, none⟩ = some (.int .i64 (j : Int))) := Lib.hid hcl0
                obtain ⟨jv, hjv0⟩ : ∃ v, px A (j : Int) = v := ⟨_, rfl⟩
                rw [hjv0, hxv.out] at hjs
                have hj0 := (habd.out j).1
                rw [hjv0] at hj0
                have hjv := Lib.hid hjv0
                clear hj hcl0 hjv0
                have hS2 : Below wr.heap.size wr wr.drew := (Below.refl _ _).drew
                by_cases hj1 : 0 < jv
                · have e5 : decide (0 < jv) = true := decide_eq_true hj1
                  have hjx : jv = (X : Int) := hjs (by omega) (by omega)
                  subst hjx
                  clear hjs hj1
                  go_wp2_with fail
                  refine plain_region (fun W' => Below wr.heap.size wr W') 25 25 (by kernel_rfl) rfl ?_
                  simp only [Array.replicate_succ, Array.replicate_zero, List.push_toArray, List.nil_append, List.cons_append]
                  refine take_op 0 (v := ?pbv0) rfl (by kernel_rfl) (fun _ _ _ h => h) (by rfl) hS2 (fun w' hS' => ?pby0) ?pbz0
                  case pby0 =>
                    go_simp
                    rfl
                  simp only [List.setIfInBounds_toArray, List.set_cons_zero, List.set_cons_succ]
                  refine take_op 1 (v := .bool true) rfl (by kernel_rfl) (fun _ _ _ h => h) (by rfl) hS2 (fun w' hS' => ?pby1) ?pbz1
                  case pby1 =>
                    go_simp
                    first
                    | done
                    | (simp only [hxp]; done)
                    | (simp only [hxp2]; done)
                    | rfl
                    | (simp [hxp, hxp2]; done)
                  simp only [List.setIfInBounds_toArray, List.set_cons_zero, List.set_cons_succ]
                  refine take_op 2 (v := ?pbv2) rfl (by kernel_rfl) (fun _ _ _ h => h) (by rfl) hS2 (fun w' hS' => ?pby2) ?pbz2
                  case pby2 =>
                    go_simp
                    rfl
                  simp only [List.setIfInBounds_toArray, List.set_cons_zero, List.set_cons_succ]
                  refine take_op 3 (v := ?pbv3) rfl (by kernel_rfl) (fun _ _ _ h => h) (by rfl) hS2 (fun w' hS' => ?pby3) ?pbz3
                  case pby3 =>
                    go_simp
                    rfl
                  simp only [List.setIfInBounds_toArray, List.set_cons_zero, List.set_cons_succ]
                  refine take_op 4 (v := ?pbv4) rfl (by kernel_rfl) (fun _ _ _ h => h) (by rfl) hS2 (fun w' hS' => ?pby4) ?pbz4
                  case pby4 =>
                    have xa2 := (kA2.below hS' kA2.lt).cell (i := 2) rfl
                    have cj := ((hBq.trans (hS'.mono hBq.size)).cell (p := ⟨bA, oA + j, none⟩) hbA).trans (hcAH.out j hjn)
                    have cl := ((hBL.trans (hS'.mono hBL.size)).cell (p := ⟨bL, oL + q, none⟩) hbL).trans hclH.out
                    rw [hjv.out] at cj
                    go_simp
                    rfl
                  simp only [List.setIfInBounds_toArray, List.set_cons_zero, List.set_cons_succ]
                  refine take_op 5 (v := ?pbv5) rfl (by kernel_rfl) (fun _ _ _ h => h) (by rfl) hS2 (fun w' hS' => ?pby5) ?pbz5
                  case pby5 =>
                    go_simp
                    rfl
                  simp only [List.setIfInBounds_toArray, List.set_cons_zero, List.set_cons_succ]
                  refine take_op 6 (v := ?pbv6) rfl (by kernel_rfl) (fun _ _ _ h => h) (by rfl) hS2 (fun w' hS' => ?pby6) ?pbz6
                  case pby6 =>
                    go_simp
                    rfl
                  simp only [List.setIfInBounds_toArray, List.set_cons_zero, List.set_cons_succ]
                  refine take_op 7 (v := ?pbv7) rfl (by kernel_rfl) (fun _ _ _ h => h) (by rfl) hS2 (fun w' hS' => ?pby7) ?pbz7
                  case pby7 =>
                    go_simp
                    try go_ints
                    first
                    | rfl
                    | rw [if_pos ⟨by omega, by omega⟩]
                  simp only [List.setIfInBounds_toArray, List.set_cons_zero, List.set_cons_succ]
                  refine take_op 8 (v := ?pbv8) rfl (by kernel_rfl) (fun _ _ _ h => h) (by rfl) hS2 (fun w' hS' => ?pby8) ?pbz8
                  case pby8 =>
                    have xa2 := (kA2.below hS' kA2.lt).cell (i := 2) rfl
                    have cj := ((hBq.trans (hS'.mono hBq.size)).cell (p := ⟨bA, oA + j, none⟩) hbA).trans (hcAH.out j hjn)
                    have cl := ((hBL.trans (hS'.mono hBL.size)).cell (p := ⟨bL, oL + q, none⟩) hbL).trans hclH.out
                    rw [hjv.out] at cj
                    go_simp
                    rfl
                  simp only [List.setIfInBounds_toArray, List.set_cons_zero, List.set_cons_succ]
                  refine take_op 9 (v := ?pbv9) rfl (by kernel_rfl) (fun _ _ _ h => h) (by rfl) hS2 (fun w' hS' => ?pby9) ?pbz9
                  case pby9 =>
                    go_simp
                    try go_ints
                    first
                    | rfl
                    | rw [if_pos ⟨by omega, by omega⟩]
                  simp only [List.setIfInBounds_toArray, List.set_cons_zero, List.set_cons_succ]
                  refine take_op 10 (v := ?pbv10) rfl (by kernel_rfl) (fun _ _ _ h => h) (by rfl) hS2 (fun w' hS' => ?pby10) ?pbz10
                  case pby10 =>
                    have xa2 := (kA2.below hS' kA2.lt).cell (i := 2) rfl
                    have cj := ((hBq.trans (hS'.mono hBq.size)).cell (p := ⟨bA, oA + j, none⟩) hbA).trans (hcAH.out j hjn)
                    have cl := ((hBL.trans (hS'.mono hBL.size)).cell (p := ⟨bL, oL + q, none⟩) hbL).trans hclH.out
                    rw [hjv.out] at cj
                    go_simp
                    rfl
                  simp only [List.setIfInBounds_toArray, List.set_cons_zero, List.set_cons_succ]
                  refine take_op 11 (v := .bool true) rfl (by kernel_rfl) (fun _ _ _ h => h) (by rfl) hS2 (fun w' hS' => ?pby11) ?pbz11
                  case pby11 =>
                    go_simp
                    first
                    | done
                    | (simp only [e5]; done)
                    | (simp only [hxp]; done)
                    | (simp only [hxp2]; done)
                    | rfl
                    | (simp [e5, hxp, hxp2]; done)
                  simp only [List.setIfInBounds_toArray, List.set_cons_zero, List.set_cons_succ]
                  refine take_op 12 (v := ?pbv12) rfl (by kernel_rfl) (fun _ _ _ h => h) (by rfl) hS2 (fun w' hS' => ?pby12) ?pbz12
                  case pby12 =>
                    go_simp
                    rfl
                  simp only [List.setIfInBounds_toArray, List.set_cons_zero, List.set_cons_succ]
                  refine take_op 13 (v := ?pbv13) rfl (by kernel_rfl) (fun _ _ _ h => h) (by rfl) hS2 (fun w' hS' => ?pby13) ?pbz13
                  case pby13 =>
                    go_simp
                    rfl
                  simp only [List.setIfInBounds_toArray, List.set_cons_zero, List.set_cons_succ]
                  refine take_op 14 (v := ?pbv14) rfl (by kernel_rfl) (fun _ _ _ h => h) (by rfl) hS2 (fun w' hS' => ?pby14) ?pbz14
                  case pby14 =>
                    go_simp
                    rfl
                  simp only [List.setIfInBounds_toArray, List.set_cons_zero, List.set_cons_succ]
                  refine take_op 15 (v := ?pbv15) rfl (by kernel_rfl) (fun _ _ _ h => h) (by rfl) hS2 (fun w' hS' => ?pby15) ?pbz15
                  case pby15 =>
                    have xa2 := (kA2.below hS' kA2.lt).cell (i := 2) rfl
                    have cj := ((hBq.trans (hS'.mono hBq.size)).cell (p := ⟨bA, oA + j, none⟩) hbA).trans (hcAH.out j hjn)
                    have cl := ((hBL.trans (hS'.mono hBL.size)).cell (p := ⟨bL, oL + q, none⟩) hbL).trans hclH.out
                    rw [hjv.out] at cj
                    go_simp
                    rfl
                  simp only [List.setIfInBounds_toArray, List.set_cons_zero, List.set_cons_succ]
                  refine take_op 16 (v := ?pbv16) rfl (by kernel_rfl) (fun _ _ _ h => h) (by rfl) hS2 (fun w' hS' => ?pby16) ?pbz16
                  case pby16 =>
                    go_simp
                    rfl
                  simp only [List.setIfInBounds_toArray, List.set_cons_zero, List.set_cons_succ]
                  refine take_op 17 (v := ?pbv17) rfl (by kernel_rfl) (fun _ _ _ h => h) (by rfl) hS2 (fun w' hS' => ?pby17) ?pbz17
                  case pby17 =>
                    go_simp
                    rfl
                  simp only [List.setIfInBounds_toArray, List.set_cons_zero, List.set_cons_succ]
                  refine take_op 18 (v := ?pbv18) rfl (by kernel_rfl) (fun _ _ _ h => h) (by rfl) hS2 (fun w' hS' => ?pby18) ?pbz18
                  case pby18 =>
                    go_simp
                    try go_ints
                    first
                    | rfl
                    | rw [if_pos ⟨by omega, by omega⟩]
                  simp only [List.setIfInBounds_toArray, List.set_cons_zero, List.set_cons_succ]
                  refine take_op 19 (v := ?pbv19) rfl (by kernel_rfl) (fun _ _ _ h => h) (by rfl) hS2 (fun w' hS' => ?pby19) ?pbz19
                  case pby19 =>
                    have xa2 := (kA2.below hS' kA2.lt).cell (i := 2) rfl
                    have cj := ((hBq.trans (hS'.mono hBq.size)).cell (p := ⟨bA, oA + j, none⟩) hbA).trans (hcAH.out j hjn)
                    have cl := ((hBL.trans (hS'.mono hBL.size)).cell (p := ⟨bL, oL + q, none⟩) hbL).trans hclH.out
                    rw [hjv.out] at cj
                    go_simp
                    rfl
                  simp only [List.setIfInBounds_toArray, List.set_cons_zero, List.set_cons_succ]
                  refine take_op 20 (v := ?pbv20) rfl (by kernel_rfl) (fun _ _ _ h => h) (by rfl) hS2 (fun w' hS' => ?pby20) ?pbz20
                  case pby20 =>
                    go_simp
                    try go_ints
                    first
                    | rfl
                    | rw [if_pos ⟨by omega, by omega⟩]
                  simp only [List.setIfInBounds_toArray, List.set_cons_zero, List.set_cons_succ]
                  refine take_op 21 (v := ?pbv21) rfl (by kernel_rfl) (fun _ _ _ h => h) (by rfl) hS2 (fun w' hS' => ?pby21) ?pbz21
                  case pby21 =>
                    have xa2 := (kA2.below hS' kA2.lt).cell (i := 2) rfl
                    have cj := ((hBq.trans (hS'.mono hBq.size)).cell (p := ⟨bA, oA + j, none⟩) hbA).trans (hcAH.out j hjn)
                    have cl := ((hBL.trans (hS'.mono hBL.size)).cell (p := ⟨bL, oL + q, none⟩) hbL).trans hclH.out
                    rw [hjv.out] at cj
                    go_simp
                    rfl
                  simp only [List.setIfInBounds_toArray, List.set_cons_zero, List.set_cons_succ]
                  refine take_op 22 (v := ?pbv22) rfl (by kernel_rfl) (fun _ _ _ h => h) (by rfl) hS2 (fun w' hS' => ?pby22) ?pbz22
                  case pby22 =>
                    go_simp
                    rfl
                  simp only [List.setIfInBounds_toArray, List.set_cons_zero, List.set_cons_succ]
                  refine take_op 23 (v := .bool false) rfl (by kernel_rfl) (fun _ _ _ h => h) (by rfl) hS2 (fun w' hS' => ?pby23) ?pbz23
                  case pby23 =>
                    go_simp
                    first
                    | done
                    | rfl
                    | (simp; done)
                  simp only [List.setIfInBounds_toArray, List.set_cons_zero, List.set_cons_succ]
                  refine take_op 24 (v := ?pbv24) rfl (by kernel_rfl) (fun _ _ _ h => h) (by rfl) hS2 (fun w' hS' => ?pby24) ?pbz24
                  case pby24 =>
                    go_simp
                    rfl
                  simp only [List.setIfInBounds_toArray, List.set_cons_zero, List.set_cons_succ]
                  refine done_ops (by kernel_rfl) ?_
                  go_wp2_with fail
                  go_roundw
                  case rel => exact ⟨q + 1, by omega, by go_num, hBL.trans (hS2.mono hBL.size)⟩
                  case measure => simp [intOf]; omega
                · have e5 : decide (0 < jv) = false := decide_eq_false hj1
                  clear hjs hj1
                  go_wp2_with fail
                  refine plain_region (fun W' => Below wr.heap.size wr W') 25 25 (by kernel_rfl) rfl ?_
                  simp only [Array.replicate_succ, Array.replicate_zero, List.push_toArray, List.nil_append, List.cons_append]
                  refine take_op 0 (v := ?pcv0) rfl (by kernel_rfl) (fun _ _ _ h => h) (by rfl) hS2 (fun w' hS' => ?pcy0) ?pcz0
                  case pcy0 =>
                    go_simp
                    rfl
                  simp only [List.setIfInBounds_toArray, List.set_cons_zero, List.set_cons_succ]
                  refine take_op 1 (v := .bool true) rfl (by kernel_rfl) (fun _ _ _ h => h) (by rfl) hS2 (fun w' hS' => ?pcy1) ?pcz1
                  case pcy1 =>
                    go_simp
                    first
                    | done
                    | (simp only [hxp]; done)
                    | (simp only [hxp2]; done)
                    | rfl
                    | (simp [hxp, hxp2]; done)
                  simp only [List.setIfInBounds_toArray, List.set_cons_zero, List.set_cons_succ]
                  refine take_op 2 (v := ?pcv2) rfl (by kernel_rfl) (fun _ _ _ h => h) (by rfl) hS2 (fun w' hS' => ?pcy2) ?pcz2
                  case pcy2 =>
                    go_simp
                    rfl
                  simp only [List.setIfInBounds_toArray, List.set_cons_zero, List.set_cons_succ]
                  refine take_op 3 (v := ?pcv3) rfl (by kernel_rfl) (fun _ _ _ h => h) (by rfl) hS2 (fun w' hS' => ?pcy3) ?pcz3
                  case pcy3 =>
                    go_simp
                    rfl
                  simp only [List.setIfInBounds_toArray, List.set_cons_zero, List.set_cons_succ]
                  refine take_op 4 (v := ?pcv4) rfl (by kernel_rfl) (fun _ _ _ h => h) (by rfl) hS2 (fun w' hS' => ?pcy4) ?pcz4
                  case pcy4 =>
                    have xa2 := (kA2.below hS' kA2.lt).cell (i := 2) rfl
                    have cj := ((hBq.trans (hS'.mono hBq.size)).cell (p := ⟨bA, oA + j, none⟩) hbA).trans (hcAH.out j hjn)
                    have cl := ((hBL.trans (hS'.mono hBL.size)).cell (p := ⟨bL, oL + q, none⟩) hbL).trans hclH.out
                    rw [hjv.out] at cj
                    go_simp
                    rfl
                  simp only [List.setIfInBounds_toArray, List.set_cons_zero, List.set_cons_succ]
                  refine take_op 5 (v := ?pcv5) rfl (by kernel_rfl) (fun _ _ _ h => h) (by rfl) hS2 (fun w' hS' => ?pcy5) ?pcz5
                  case pcy5 =>
                    go_simp
                    rfl
                  simp only [List.setIfInBounds_toArray, List.set_cons_zero, List.set_cons_succ]
                  refine take_op 6 (v := ?pcv6) rfl (by kernel_rfl) (fun _ _ _ h => h) (by rfl) hS2 (fun w' hS' => ?pcy6) ?pcz6
                  case pcy6 =>
                    go_simp
                    rfl
                  simp only [List.setIfInBounds_toArray, List.set_cons_zero, List.set_cons_succ]
                  refine take_op 7 (v := ?pcv7) rfl (by kernel_rfl) (fun _ _ _ h => h) (by rfl) hS2 (fun w' hS' => ?pcy7) ?pcz7
                  case pcy7 =>
                    go_simp
                    try go_ints
                    first
                    | rfl
                    | rw [if_pos ⟨by omega, by omega⟩]
                  simp only [List.setIfInBounds_toArray, List.set_cons_zero, List.set_cons_succ]
                  refine take_op 8 (v := ?pcv8) rfl (by kernel_rfl) (fun _ _ _ h => h) (by rfl) hS2 (fun w' hS' => ?pcy8) ?pcz8
                  case pcy8 =>
                    have xa2 := (kA2.below hS' kA2.lt).cell (i := 2) rfl
                    have cj := ((hBq.trans (hS'.mono hBq.size)).cell (p := ⟨bA, oA + j, none⟩) hbA).trans (hcAH.out j hjn)
                    have cl := ((hBL.trans (hS'.mono hBL.size)).cell (p := ⟨bL, oL + q, none⟩) hbL).trans hclH.out
                    rw [hjv.out] at cj
                    go_simp
                    rfl
                  simp only [List.setIfInBounds_toArray, List.set_cons_zero, List.set_cons_succ]
                  refine take_op 9 (v := ?pcv9) rfl (by kernel_rfl) (fun _ _ _ h => h) (by rfl) hS2 (fun w' hS' => ?pcy9) ?pcz9
                  case pcy9 =>
                    go_simp
                    try go_ints
                    first
                    | rfl
                    | rw [if_pos ⟨by omega, by omega⟩]
                  simp only [List.setIfInBounds_toArray, List.set_cons_zero, List.set_cons_succ]
                  refine take_op 10 (v := ?pcv10) rfl (by kernel_rfl) (fun _ _ _ h => h) (by rfl) hS2 (fun w' hS' => ?pcy10) ?pcz10
                  case pcy10 =>
                    have xa2 := (kA2.below hS' kA2.lt).cell (i := 2) rfl
                    have cj := ((hBq.trans (hS'.mono hBq.size)).cell (p := ⟨bA, oA + j, none⟩) hbA).trans (hcAH.out j hjn)
                    have cl := ((hBL.trans (hS'.mono hBL.size)).cell (p := ⟨bL, oL + q, none⟩) hbL).trans hclH.out
                    rw [hjv.out] at cj
                    go_simp
                    rfl
                  simp only [List.setIfInBounds_toArray, List.set_cons_zero, List.set_cons_succ]
                  refine take_op 11 (v := .bool false) rfl (by kernel_rfl) (fun _ _ _ h => h) (by rfl) hS2 (fun w' hS' => ?pcy11) ?pcz11
                  case pcy11 =>
                    go_simp
                    first
                    | done
                    | (simp only [e5]; done)
                    | rfl
                    | (simp [e5]; done)
                  simp only [List.setIfInBounds_toArray, List.set_cons_zero, List.set_cons_succ]
                  refine take_op 12 (v := ?pcv12) rfl (by kernel_rfl) (fun _ _ _ h => h) (by rfl) hS2 (fun w' hS' => ?pcy12) ?pcz12
                  case pcy12 =>
                    go_simp
                    rfl
                  simp only [List.setIfInBounds_toArray, List.set_cons_zero, List.set_cons_succ]
                  refine take_op 13 (v := ?pcv13) rfl (by kernel_rfl) (fun _ _ _ h => h) (by rfl) hS2 (fun w' hS' => ?pcy13) ?pcz13
                  case pcy13 =>
                    go_simp
                    rfl
                  simp only [List.setIfInBounds_toArray, List.set_cons_zero, List.set_cons_succ]
                  refine pass_op 14 rfl (by kernel_rfl) (fun _ _ _ h => h) (by rfl) hS2 ?_
                  simp only [List.setIfInBounds_toArray, List.set_cons_zero, List.set_cons_succ]
                  refine pass_op 15 rfl (by kernel_rfl) (fun _ _ _ h => h) (by rfl) hS2 ?_
                  simp only [List.setIfInBounds_toArray, List.set_cons_zero, List.set_cons_succ]
                  refine pass_op 16 rfl (by kernel_rfl) (fun _ _ _ h => h) (by rfl) hS2 ?_
                  simp only [List.setIfInBounds_toArray, List.set_cons_zero, List.set_cons_succ]
                  refine pass_op 17 rfl (by kernel_rfl) (fun _ _ _ h => h) (by rfl) hS2 ?_
                  simp only [List.setIfInBounds_toArray, List.set_cons_zero, List.set_cons_succ]
                  refine pass_op 18 rfl (by kernel_rfl) (fun _ _ _ h => h) (by rfl) hS2 ?_
                  simp only [List.setIfInBounds_toArray, List.set_cons_zero, List.set_cons_succ]
                  refine pass_op 19 rfl (by kernel_rfl) (fun _ _ _ h => h) (by rfl) hS2 ?_
                  simp only [List.setIfInBounds_toArray, List.set_cons_zero, List.set_cons_succ]
                  refine pass_op 20 rfl (by kernel_rfl) (fun _ _ _ h => h) (by rfl) hS2 ?_
                  simp only [List.setIfInBounds_toArray, List.set_cons_zero, List.set_cons_succ]
                  refine pass_op 21 rfl (by kernel_rfl) (fun _ _ _ h => h) (by rfl) hS2 ?_
                  simp only [List.setIfInBounds_toArray, List.set_cons_zero, List.set_cons_succ]
                  refine pass_op 22 rfl (by kernel_rfl) (fun _ _ _ h => h) (by rfl) hS2 ?_
                  simp only [List.setIfInBounds_toArray, List.set_cons_zero, List.set_cons_succ]
                  refine pass_op 23 rfl (by kernel_rfl) (fun _ _ _ h => h) (by rfl) hS2 ?_
                  simp only [List.setIfInBounds_toArray, List.set_cons_zero, List.set_cons_succ]
                  refine take_op 24 (v := ?pcv24) rfl (by kernel_rfl) (fun _ _ _ h => h) (by rfl) hS2 (fun w' hS' => ?pcy24) ?pcz24
                  case pcy24 =>
                    go_simp
                    rfl
                  simp only [List.setIfInBounds_toArray, List.set_cons_zero, List.set_cons_succ]
                  refine done_ops (by kernel_rfl) ?_
                  go_wp2_with fail
                  go_roundw
                  case rel => exact ⟨q + 1, by omega, by go_num, hBL.trans (hS2.mono hBL.size)⟩
                  case measure => simp [intOf]; omega
              · have hqq : q = LL.length := by omega
                subst hqq
                go_wp2_with fail
                go_roundw
                case rel => exact ⟨k + 1, (T.set X yv), by omega, by go_num, by rw [hSs.out], by rw [hGs.out], hTP2.out, hBq, row_below row5 hBL⟩
                case measure => simp [intOf]; omega
          · have b1 : (tv == 0) = false := by rw [beq_eq_false_iff_ne]; exact ht0
            have b1' : (tv != 0) = true := by simp [ht0]
            obtain rfl : yv = tv := (hTX.resolve_left ht0).symm
            clear hTX ht0
            go_wp2_with fail
            refine (lneighbours_any pw ph k (some ⟨ba, oa, none⟩) c n (by omega) (by omega) (by omega) (by omega) (by rw [hNH.out]; exact hk) _).mono ?_
            rintro e V12 ⟨⟨va, vc, rfl, hL⟩, hb⟩
            have hst := row4.stored X (.int .i64 yv)
            have row5 := row_below hst.1 hb
            rw [map_set_int] at row5
            have hB12 : Below V8.heap.size V8 V12 := ((hBw.trans (hS.mono hBw.size)).setCell (p := ⟨V8.heap.size, X, none⟩) (Nat.le_refl _) (.int .i64 yv)).trans (hb.mono ((hBw.trans (hS.mono hBw.size)).setCell (p := ⟨V8.heap.size, X, none⟩) (Nat.le_refl _) (.int .i64 yv)).size)
            have kA1 := kA.below hB12 kA.lt
            clear hb hst row4 m2 m1 m0 n2 n1 n0 kas ca ct2 hfr
            obtain ⟨LL, hLL⟩ : ∃ LL, nbrL pw ph k = LL := ⟨_, rfl⟩
            have hnb : Hid (∀ j, j ∈ LL → j < n ∧ (px A k ≠ 0 → px A j ≠ 0 → px A j = px A k)) := Lib.hid (by rw [← hLL]; exact hnbr.out k hk)
            rw [hLL] at hL ⊢
            have hl4 : LL.length ≤ 4 := by rw [← hLL]; exact nbrL_length _ _ _
            clear hLL
            go_wp2_with fail
            go_loopw [17] (fun i wr => ∃ q : Nat, q ≤ LL.length ∧ i = .int .i64 (q : Int) ∧ Below V12.heap.size V12 wr) (fun i _ => LL.length - (intOf i).toNat)
            case atStart => exact ⟨0, Nat.zero_le _, rfl, Below.refl _ _⟩
            case round =>
              clear hBr hS
              obtain ⟨q, hq, rfl, hBL⟩ := hrel
              have hBq := hB12.trans (hBL.mono hB12.size)
              have kA2 := kA1.below hBL kA1.lt
              by_cases hql : q < LL.length
              · obtain ⟨j, hj⟩ : ∃ j, LL[q]? = some j := ⟨_, List.getElem?_eq_getElem hql⟩
                obtain ⟨hjn, hjs⟩ := hnb.out j (List.mem_of_getElem? hj)
                obtain ⟨bL, oL, hLa, hbL, hcl0⟩ := rowN_at hL hj
                subst hLa
                have hclH : Hid (V12.cell? ⟨bL, oL + q, none⟩ = some (.int .i64 (j : Int))) := Lib.hid hcl0
                obtain ⟨jv, hjv0⟩ : ∃ v, px A (j : Int) = v := ⟨_, rfl⟩
                rw [hjv0, hxv.out] at hjs
                have hj0 := (habd.out j).1
                rw [hjv0] at hj0
                have hjv := Lib.hid hjv0
                clear hj hcl0 hjv0
                have hS2 : Below wr.heap.size wr wr.drew := (Below.refl _ _).drew
                by_cases hj1 : 0 < jv
                · have e5 : decide (0 < jv) = true := decide_eq_true hj1
                  have hjx : jv = (X : Int) := hjs (by omega) (by omega)
                  subst hjx
                  clear hjs hj1
                  go_wp2_with fail
                  refine plain_region (fun W' => Below wr.heap.size wr W') 25 25 (by kernel_rfl) rfl ?_
                  simp only [Array.replicate_succ, Array.replicate_zero, List.push_toArray, List.nil_append, List.cons_append]
                  refine take_op 0 (v := ?qbv0) rfl (by kernel_rfl) (fun _ _ _ h => h) (by rfl) hS2 (fun w' hS' => ?qby0) ?qbz0
                  case qby0 =>
                    go_simp
                    rfl
                  simp only [List.setIfInBounds_toArray, List.set_cons_zero, List.set_cons_succ]
                  refine take_op 1 (v := .bool true) rfl (by kernel_rfl) (fun _ _ _ h => h) (by rfl) hS2 (fun w' hS' => ?qby1) ?qbz1
                  case qby1 =>
                    go_simp
                    first
                    | done
                    | (simp only [hxp]; done)
                    | (simp only [hxp2]; done)
                    | rfl
                    | (simp [hxp, hxp2]; done)
                  simp only [List.setIfInBounds_toArray, List.set_cons_zero, List.set_cons_succ]
                  refine take_op 2 (v := ?qbv2) rfl (by kernel_rfl) (fun _ _ _ h => h) (by rfl) hS2 (fun w' hS' => ?qby2) ?qbz2
                  case qby2 =>
                    go_simp
                    rfl
                  simp only [List.setIfInBounds_toArray, List.set_cons_zero, List.set_cons_succ]
                  refine take_op 3 (v := ?qbv3) rfl (by kernel_rfl) (fun _ _ _ h => h) (by rfl) hS2 (fun w' hS' => ?qby3) ?qbz3
                  case qby3 =>
                    go_simp
                    rfl
                  simp only [List.setIfInBounds_toArray, List.set_cons_zero, List.set_cons_succ]
                  refine take_op 4 (v := ?qbv4) rfl (by kernel_rfl) (fun _ _ _ h => h) (by rfl) hS2 (fun w' hS' => ?qby4) ?qbz4
                  case qby4 =>
                    have xa2 := (kA2.below hS' kA2.lt).cell (i := 2) rfl
                    have cj := ((hBq.trans (hS'.mono hBq.size)).cell (p := ⟨bA, oA + j, none⟩) hbA).trans (hcAH.out j hjn)
                    have cl := ((hBL.trans (hS'.mono hBL.size)).cell (p := ⟨bL, oL + q, none⟩) hbL).trans hclH.out
                    rw [hjv.out] at cj
                    go_simp
                    rfl
                  simp only [List.setIfInBounds_toArray, List.set_cons_zero, List.set_cons_succ]
                  refine take_op 5 (v := ?qbv5) rfl (by kernel_rfl) (fun _ _ _ h => h) (by rfl) hS2 (fun w' hS' => ?qby5) ?qbz5
                  case qby5 =>
                    go_simp
                    rfl
                  simp only [List.setIfInBounds_toArray, List.set_cons_zero, List.set_cons_succ]
                  refine take_op 6 (v := ?qbv6) rfl (by kernel_rfl) (fun _ _ _ h => h) (by rfl) hS2 (fun w' hS' => ?qby6) ?qbz6
                  case qby6 =>
                    go_simp
                    rfl
                  simp only [List.setIfInBounds_toArray, List.set_cons_zero, List.set_cons_succ]
                  refine take_op 7 (v := ?qbv7) rfl (by kernel_rfl) (fun _ _ _ h => h) (by rfl) hS2 (fun w' hS' => ?qby7) ?qbz7
                  case qby7 =>
                    go_simp
                    try go_ints
                    first
                    | rfl
                    | rw [if_pos ⟨by omega, by omega⟩]
                  simp only [List.setIfInBounds_toArray, List.set_cons_zero, List.set_cons_succ]
                  refine take_op 8 (v := ?qbv8) rfl (by kernel_rfl) (fun _ _ _ h => h) (by rfl) hS2 (fun w' hS' => ?qby8) ?qbz8
                  case qby8 =>
                    have xa2 := (kA2.below hS' kA2.lt).cell (i := 2) rfl
                    have cj := ((hBq.trans (hS'.mono hBq.size)).cell (p := ⟨bA, oA + j, none⟩) hbA).trans (hcAH.out j hjn)
                    have cl := ((hBL.trans (hS'.mono hBL.size)).cell (p := ⟨bL, oL + q, none⟩) hbL).trans hclH.out
                    rw [hjv.out] at cj
                    go_simp
                    rfl
                  simp only [List.setIfInBounds_toArray, List.set_cons_zero, List.set_cons_succ]
                  refine take_op 9 (v := ?qbv9) rfl (by kernel_rfl) (fun _ _ _ h => h) (by rfl) hS2 (fun w' hS' => ?qby9) ?qbz9
                  case qby9 =>
                    go_simp
                    try go_ints
                    first
                    | rfl
                    | rw [if_pos ⟨by omega, by omega⟩]
                  simp only [List.setIfInBounds_toArray, List.set_cons_zero, List.set_cons_succ]
                  refine take_op 10 (v := ?qbv10) rfl (by kernel_rfl) (fun _ _ _ h => h) (by rfl) hS2 (fun w' hS' => ?qby10) ?qbz10
                  case qby10 =>
                    have xa2 := (kA2.below hS' kA2.lt).cell (i := 2) rfl
                    have cj := ((hBq.trans (hS'.mono hBq.size)).cell (p := ⟨bA, oA + j, none⟩) hbA).trans (hcAH.out j hjn)
                    have cl := ((hBL.trans (hS'.mono hBL.size)).cell (p := ⟨bL, oL + q, none⟩) hbL).trans hclH.out
                    rw [hjv.out] at cj
                    go_simp
                    rfl
                  simp only [List.setIfInBounds_toArray, List.set_cons_zero, List.set_cons_succ]
                  refine take_op 11 (v := .bool true) rfl (by kernel_rfl) (fun _ _ _ h => h) (by rfl) hS2 (fun w' hS' => ?qby11) ?qbz11
                  case qby11 =>
                    go_simp
                    first
                    | done
                    | (simp only [e5]; done)
                    | (simp only [hxp]; done)
                    | (simp only [hxp2]; done)
                    | rfl
                    | (simp [e5, hxp, hxp2]; done)
                  simp only [List.setIfInBounds_toArray, List.set_cons_zero, List.set_cons_succ]
                  refine take_op 12 (v := ?qbv12) rfl (by kernel_rfl) (fun _ _ _ h => h) (by rfl) hS2 (fun w' hS' => ?qby12) ?qbz12
                  case qby12 =>
                    go_simp
                    rfl
                  simp only [List.setIfInBounds_toArray, List.set_cons_zero, List.set_cons_succ]
                  refine take_op 13 (v := ?qbv13) rfl (by kernel_rfl) (fun _ _ _ h => h) (by rfl) hS2 (fun w' hS' => ?qby13) ?qbz13
                  case qby13 =>
                    go_simp
                    rfl
                  simp only [List.setIfInBounds_toArray, List.set_cons_zero, List.set_cons_succ]
                  refine take_op 14 (v := ?qbv14) rfl (by kernel_rfl) (fun _ _ _ h => h) (by rfl) hS2 (fun w' hS' => ?qby14) ?qbz14
                  case qby14 =>
                    go_simp
                    rfl
                  simp only [List.setIfInBounds_toArray, List.set_cons_zero, List.set_cons_succ]
                  refine take_op 15 (v := ?qbv15) rfl (by kernel_rfl) (fun _ _ _ h => h) (by rfl) hS2 (fun w' hS' => ?qby15) ?qbz15
                  case qby15 =>
                    have xa2 := (kA2.below hS' kA2.lt).cell (i := 2) rfl
                    have cj := ((hBq.trans (hS'.mono hBq.size)).cell (p := ⟨bA, oA + j, none⟩) hbA).trans (hcAH.out j hjn)
                    have cl := ((hBL.trans (hS'.mono hBL.size)).cell (p := ⟨bL, oL + q, none⟩) hbL).trans hclH.out
                    rw [hjv.out] at cj
                    go_simp
                    rfl
                  simp only [List.setIfInBounds_toArray, List.set_cons_zero, List.set_cons_succ]
                  refine take_op 16 (v := ?qbv16) rfl (by kernel_rfl) (fun _ _ _ h => h) (by rfl) hS2 (fun w' hS' => ?qby16) ?qbz16
                  case qby16 =>
                    go_simp
                    rfl
                  simp only [List.setIfInBounds_toArray, List.set_cons_zero, List.set_cons_succ]
                  refine take_op 17 (v := ?qbv17) rfl (by kernel_rfl) (fun _ _ _ h => h) (by rfl) hS2 (fun w' hS' => ?qby17) ?qbz17
                  case qby17 =>
                    go_simp
                    rfl
                  simp only [List.setIfInBounds_toArray, List.set_cons_zero, List.set_cons_succ]
                  refine take_op 18 (v := ?qbv18) rfl (by kernel_rfl) (fun _ _ _ h => h) (by rfl) hS2 (fun w' hS' => ?qby18) ?qbz18
                  case qby18 =>
                    go_simp
                    try go_ints
                    first
                    | rfl
                    | rw [if_pos ⟨by omega, by omega⟩]
                  simp only [List.setIfInBounds_toArray, List.set_cons_zero, List.set_cons_succ]
                  refine take_op 19 (v := ?qbv19) rfl (by kernel_rfl) (fun _ _ _ h => h) (by rfl) hS2 (fun w' hS' => ?qby19) ?qbz19
                  case qby19 =>
                    have xa2 := (kA2.below hS' kA2.lt).cell (i := 2) rfl
                    have cj := ((hBq.trans (hS'.mono hBq.size)).cell (p := ⟨bA, oA + j, none⟩) hbA).trans (hcAH.out j hjn)
                    have cl := ((hBL.trans (hS'.mono hBL.size)).cell (p := ⟨bL, oL + q, none⟩) hbL).trans hclH.out
                    rw [hjv.out] at cj
                    go_simp
                    rfl
                  simp only [List.setIfInBounds_toArray, List.set_cons_zero, List.set_cons_succ]
                  refine take_op 20 (v := ?qbv20) rfl (by kernel_rfl) (fun _ _ _ h => h) (by rfl) hS2 (fun w' hS' => ?qby20) ?qbz20
                  case qby20 =>
                    go_simp
                    try go_ints
                    first
                    | rfl
                    | rw [if_pos ⟨by omega, by omega⟩]
                  simp only [List.setIfInBounds_toArray, List.set_cons_zero, List.set_cons_succ]
                  refine take_op 21 (v := ?qbv21) rfl (by kernel_rfl) (fun _ _ _ h => h) (by rfl) hS2 (fun w' hS' => ?qby21) ?qbz21
                  case qby21 =>
                    have xa2 := (kA2.below hS' kA2.lt).cell (i := 2) rfl
                    have cj := ((hBq.trans (hS'.mono hBq.size)).cell (p := ⟨bA, oA + j, none⟩) hbA).trans (hcAH.out j hjn)
                    have cl := ((hBL.trans (hS'.mono hBL.size)).cell (p := ⟨bL, oL + q, none⟩) hbL).trans hclH.out
                    rw [hjv.out] at cj
                    go_simp
                    rfl
                  simp only [List.setIfInBounds_toArray, List.set_cons_zero, List.set_cons_succ]
                  refine take_op 22 (v := ?qbv22) rfl (by kernel_rfl) (fun _ _ _ h => h) (by rfl) hS2 (fun w' hS' => ?qby22) ?qbz22
                  case qby22 =>
                    go_simp
                    rfl
                  simp only [List.setIfInBounds_toArray, List.set_cons_zero, List.set_cons_succ]
                  refine take_op 23 (v := .bool false) rfl (by kernel_rfl) (fun _ _ _ h => h) (by rfl) hS2 (fun w' hS' => ?qby23) ?qbz23
                  case qby23 =>
                    go_simp
                    first
                    | done
                    | rfl
                    | (simp; done)
                  simp only [List.setIfInBounds_toArray, List.set_cons_zero, List.set_cons_succ]
                  refine take_op 24 (v := ?qbv24) rfl (by kernel_rfl) (fun _ _ _ h => h) (by rfl) hS2 (fun w' hS' => ?qby24) ?qbz24
                  case qby24 =>
                    go_simp
                    rfl
                  simp only [List.setIfInBounds_toArray, List.set_cons_zero, List.set_cons_succ]
                  refine done_ops (by kernel_rfl) ?_
                  go_wp2_with fail
                  go_roundw
                  case rel => exact ⟨q + 1, by omega, by go_num, hBL.trans (hS2.mono hBL.size)⟩
                  case measure => simp [intOf]; omega
                · have e5 : decide (0 < jv) = false := decide_eq_false hj1
                  clear hjs hj1
                  go_wp2_with fail
                  refine plain_region (fun W' => Below wr.heap.size wr W') 25 25 (by kernel_rfl) rfl ?_
                  simp only [Array.replicate_succ, Array.replicate_zero, List.push_toArray, List.nil_append, List.cons_append]
                  refine take_op 0 (v := ?qcv0) rfl (by kernel_rfl) (fun _ _ _ h => h) (by rfl) hS2 (fun w' hS' => ?qcy0) ?qcz0
                  case qcy0 =>
                    go_simp
                    rfl
                  simp only [List.setIfInBounds_toArray, List.set_cons_zero, List.set_cons_succ]
                  refine take_op 1 (v := .bool true) rfl (by kernel_rfl) (fun _ _ _ h => h) (by rfl) hS2 (fun w' hS' => ?qcy1) ?qcz1
                  case qcy1 =>
                    go_simp
                    first
                    | done
                    | (simp only [hxp]; done)
                    | (simp only [hxp2]; done)
                    | rfl
                    | (simp [hxp, hxp2]; done)
                  simp only [List.setIfInBounds_toArray, List.set_cons_zero, List.set_cons_succ]
                  refine take_op 2 (v := ?qcv2) rfl (by kernel_rfl) (fun _ _ _ h => h) (by rfl) hS2 (fun w' hS' => ?qcy2) ?qcz2
                  case qcy2 =>
                    go_simp
                    rfl
                  simp only [List.setIfInBounds_toArray, List.set_cons_zero, List.set_cons_succ]
                  refine take_op 3 (v := ?qcv3) rfl (by kernel_rfl) (fun _ _ _ h => h) (by rfl) hS2 (fun w' hS' => ?qcy3) ?qcz3
                  case qcy3 =>
                    go_simp
                    rfl
                  simp only [List.setIfInBounds_toArray, List.set_cons_zero, List.set_cons_succ]
                  refine take_op 4 (v := ?qcv4) rfl (by kernel_rfl) (fun _ _ _ h => h) (by rfl) hS2 (fun w' hS' => ?qcy4) ?qcz4
                  case qcy4 =>
                    have xa2 := (kA2.below hS' kA2.lt).cell (i := 2) rfl
                    have cj := ((hBq.trans (hS'.mono hBq.size)).cell (p := ⟨bA, oA + j, none⟩) hbA).trans (hcAH.out j hjn)
                    have cl := ((hBL.trans (hS'.mono hBL.size)).cell (p := ⟨bL, oL + q, none⟩) hbL).trans hclH.out
                    rw [hjv.out] at cj
                    go_simp
                    rfl
                  simp only [List.setIfInBounds_toArray, List.set_cons_zero, List.set_cons_succ]
                  refine take_op 5 (v := ?qcv5) rfl (by kernel_rfl) (fun _ _ _ h => h) (by rfl) hS2 (fun w' hS' => ?qcy5) ?qcz5
                  case qcy5 =>
                    go_simp
                    rfl
                  simp only [List.setIfInBounds_toArray, List.set_cons_zero, List.set_cons_succ]
                  refine take_op 6 (v := ?qcv6) rfl (by kernel_rfl) (fun _ _ _ h => h) (by rfl) hS2 (fun w' hS' => ?qcy6) ?qcz6
                  case qcy6 =>
                    go_simp
                    rfl
                  simp only [List.setIfInBounds_toArray, List.set_cons_zero, List.set_cons_succ]
                  refine take_op 7 (v := ?qcv7) rfl (by kernel_rfl) (fun _ _ _ h => h) (by rfl) hS2 (fun w' hS' => ?qcy7) ?qcz7
                  case qcy7 =>
                    go_simp
                    try go_ints
                    first
                    | rfl
                    | rw [if_pos ⟨by omega, by omega⟩]
                  simp only [List.setIfInBounds_toArray, List.set_cons_zero, List.set_cons_succ]
                  refine take_op 8 (v := ?qcv8) rfl (by kernel_rfl) (fun _ _ _ h => h) (by rfl) hS2 (fun w' hS' => ?qcy8) ?qcz8
                  case qcy8 =>
                    have xa2 := (kA2.below hS' kA2.lt).cell (i := 2) rfl
                    have cj := ((hBq.trans (hS'.mono hBq.size)).cell (p := ⟨bA, oA + j, none⟩) hbA).trans (hcAH.out j hjn)
                    have cl := ((hBL.trans (hS'.mono hBL.size)).cell (p := ⟨bL, oL + q, none⟩) hbL).trans hclH.out
                    rw [hjv.out] at cj
                    go_simp
                    rfl
                  simp only [List.setIfInBounds_toArray, List.set_cons_zero, List.set_cons_succ]
                  refine take_op 9 (v := ?qcv9) rfl (by kernel_rfl) (fun _ _ _ h => h) (by rfl) hS2 (fun w' hS' => ?qcy9) ?qcz9
                  case qcy9 =>
                    go_simp
                    try go_ints
                    first
                    | rfl
                    | rw [if_pos ⟨by omega, by omega⟩]
                  simp only [List.setIfInBounds_toArray, List.set_cons_zero, List.set_cons_succ]
                  refine take_op 10 (v := ?qcv10) rfl (by kernel_rfl) (fun _ _ _ h => h) (by rfl) hS2 (fun w' hS' => ?qcy10) ?qcz10
                  case qcy10 =>
                    have xa2 := (kA2.below hS' kA2.lt).cell (i := 2) rfl
                    have cj := ((hBq.trans (hS'.mono hBq.size)).cell (p := ⟨bA, oA + j, none⟩) hbA).trans (hcAH.out j hjn)
                    have cl := ((hBL.trans (hS'.mono hBL.size)).cell (p := ⟨bL, oL + q, none⟩) hbL).trans hclH.out
                    rw [hjv.out] at cj
                    go_simp
                    rfl
                  simp only [List.setIfInBounds_toArray, List.set_cons_zero, List.set_cons_succ]
                  refine take_op 11 (v := .bool false) rfl (by kernel_rfl) (fun _ _ _ h => h) (by rfl) hS2 (fun w' hS' => ?qcy11) ?qcz11
                  case qcy11 =>
                    go_simp
                    first
                    | done
                    | (simp only [e5]; done)
                    | rfl
                    | (simp [e5]; done)
                  simp only [List.setIfInBounds_toArray, List.set_cons_zero, List.set_cons_succ]
                  refine take_op 12 (v := ?qcv12) rfl (by kernel_rfl) (fun _ _ _ h => h) (by rfl) hS2 (fun w' hS' => ?qcy12) ?qcz12
                  case qcy12 =>
                    go_simp
                    rfl
                  simp only [List.setIfInBounds_toArray, List.set_cons_zero, List.set_cons_succ]
                  refine take_op 13 (v := ?qcv13) rfl (by kernel_rfl) (fun _ _ _ h => h) (by rfl) hS2 (fun w' hS' => ?qcy13) ?qcz13
                  case qcy13 =>
                    go_simp
                    rfl
                  simp only [List.setIfInBounds_toArray, List.set_cons_zero, List.set_cons_succ]
                  refine pass_op 14 rfl (by kernel_rfl) (fun _ _ _ h => h) (by rfl) hS2 ?_
                  simp only [List.setIfInBounds_toArray, List.set_cons_zero, List.set_cons_succ]
                  refine pass_op 15 rfl (by kernel_rfl) (fun _ _ _ h => h) (by rfl) hS2 ?_
                  simp only [List.setIfInBounds_toArray, List.set_cons_zero, List.set_cons_succ]
                  refine pass_op 16 rfl (by kernel_rfl) (fun _ _ _ h => h) (by rfl) hS2 ?_
                  simp only [List.setIfInBounds_toArray, List.set_cons_zero, List.set_cons_succ]
                  refine pass_op 17 rfl (by kernel_rfl) (fun _ _ _ h => h) (by rfl) hS2 ?_
                  simp only [List.setIfInBounds_toArray, List.set_cons_zero, List.set_cons_succ]
                  refine pass_op 18 rfl (by kernel_rfl) (fun _ _ _ h => h) (by rfl) hS2 ?_
                  simp only [List.setIfInBounds_toArray, List.set_cons_zero, List.set_cons_succ]
                  refine pass_op 19 rfl (by kernel_rfl) (fun _ _ _ h => h) (by rfl) hS2 ?_
                  simp only [List.setIfInBounds_toArray, List.set_cons_zero, List.set_cons_succ]
                  refine pass_op 20 rfl (by kernel_rfl) (fun _ _ _ h => h) (by rfl) hS2 ?_
                  simp only [List.setIfInBounds_toArray, List.set_cons_zero, List.set_cons_succ]
                  refine pass_op 21 rfl (by kernel_rfl) (fun _ _ _ h => h) (by rfl) hS2 ?_
                  simp only [List.setIfInBounds_toArray, List.set_cons_zero, List.set_cons_succ]
                  refine pass_op 22 rfl (by kernel_rfl) (fun _ _ _ h => h) (by rfl) hS2 ?_
                  simp only [List.setIfInBounds_toArray, List.set_cons_zero, List.set_cons_succ]
                  refine pass_op 23 rfl (by kernel_rfl) (fun _ _ _ h => h) (by rfl) hS2 ?_
                  simp only [List.setIfInBounds_toArray, List.set_cons_zero, List.set_cons_succ]
                  refine take_op 24 (v := ?qcv24) rfl (by kernel_rfl) (fun _ _ _ h => h) (by rfl) hS2 (fun w' hS' => ?qcy24) ?qcz24
                  case qcy24 =>
                    go_simp
                    rfl
                  simp only [List.setIfInBounds_toArray, List.set_cons_zero, List.set_cons_succ]
                  refine done_ops (by kernel_rfl) ?_
                  go_wp2_with fail
                  go_roundw
                  case rel => exact ⟨q + 1, by omega, by go_num, hBL.trans (hS2.mono hBL.size)⟩
                  case measure => simp [intOf]; omega
              · have hqq : q = LL.length := by omega
                subst hqq
                go_wp2_with fail
                go_roundw
                case rel => exact ⟨k + 1, (T.set X yv), by omega, by go_num, by rw [hSs.out], by rw [hGs.out], hTP2.out, hBq, row_below row5 hBL⟩
                case measure => simp [intOf]; omega
      · have hkk : n = k := by omega
        subst hkk
        go_wp2_with fail
        go_ret
        exact ⟨rfl, hBr⟩

end Go.Proofs.Ytjglfeonoiljlaa
namespace Go.Proofs.Ytjglfeonoiljlaa
open Go Go.RowKit Go.Shelf
set_option linter.unusedVariables false
set_option linter.unusedSimpArgs false

theorem row_some {W : World} {B : Nat} {e : TypeId} {s : Nat} {v : Value} {k : Nat} {xs : List Value} (h : W.ownsRow B e s v k xs) (h0 : 0 < k) : ∃ g cap, v = .slice (some ⟨g, 0, none⟩) k cap ∧ B ≤ g := by
  rcases h.2 with ⟨h1, h2⟩ | ⟨g, cap, cur, h1, h2, _⟩
  · omega
  · exact ⟨g, cap, h1, h2⟩

/-- The image whose first k pixels have lost a part. -/
def lose (n : Nat) (A xs : List Int) (p : Int) (k : Nat) : List Int := (List.range n).map fun (j : Nat) => if j < k ∧ px A j = p then 0 else px xs j
theorem lose_len (n : Nat) (A xs : List Int) (p : Int) (k : Nat) : (lose n A xs p k).length = n := by simp [lose]
theorem lose_px {n : Nat} {A xs : List Int} {p : Int} {k j : Nat} (hj : j < n) : px (lose n A xs p k) j = if j < k ∧ px A j = p then 0 else px xs j := px_map_range _ hj
theorem lose_zero {n : Nat} {A xs : List Int} {p : Int} (hl : xs.length = n) : lose n A xs p 0 = xs :=
  px_ext (by rw [lose_len, hl]) fun j hj => by
    rw [lose_len] at hj
    rw [lose_px hj, if_neg (by omega)]
theorem lose_step {n : Nat} {A xs : List Int} {p : Int} {k : Nat} (hk : k < n) : (if px A k = p then (lose n A xs p k).set k 0 else lose n A xs p k) = lose n A xs p (k + 1) := by
  by_cases h : px A k = p
  · rw [if_pos h]
    refine px_ext (by simp [lose_len]) fun j hj => ?_
    rw [List.length_set, lose_len] at hj
    rw [px_set _ (by rw [lose_len]; exact hk), lose_px hj, lose_px hj]
    by_cases e : j = k
    · subst e; rw [if_pos rfl, if_pos ⟨by omega, h⟩]
    · rw [if_neg e]
      by_cases hc : j < k ∧ px A j = p
      · rw [if_pos hc, if_pos ⟨by omega, hc.2⟩]
      · rw [if_neg hc, if_neg fun h => hc ⟨by omega, h.2⟩]
  · rw [if_neg h]
    refine px_ext (by simp [lose_len]) fun j hj => ?_
    rw [lose_len] at hj
    rw [lose_px hj, lose_px hj]
    by_cases hc : j < k ∧ px A j = p
    · rw [if_pos hc, if_pos ⟨by omega, hc.2⟩]
    · rw [if_neg hc, if_neg]
      rintro ⟨h1, h2⟩
      by_cases e : j = k
      · subst e; exact h h2
      · exact hc ⟨by omega, h2⟩
theorem lose_rng {n : Nat} {A xs : List Int} {p : Int} (hx : rng xs) (k : Nat) : rng (lose n A xs p k) := by
  unfold rng lose
  simp only [allIn, List.all_eq_true, List.mem_map]
  rintro x ⟨j, _, rfl⟩
  have := px_bd hx (j : Int)
  refine inR_true.2 ?_
  split <;> omega

set_option maxRecDepth 100000 in
set_option maxHeartbeats 16000000 in
theorem law_apart (iw ih : Int) (a : Option Addr) (c n : Nat) (xs : List Int) (hn : Hid (xs.length = n)) (part : Int) (w : World) (hm : n ≤ 9223372036854775807) (hr : Rd w.heap.size w a xs) :
    Calls Try.prog 11 #[imv iw ih a n c, .int .i64 part] w fun e w' => e = .returned (.bool true) ∧ Below w.heap.size w w' := by
  obtain ⟨zv, hzv0⟩ : ∃ v, vld iw ih xs = v := ⟨_, rfl⟩
  have hzv := Lib.hid hzv0
  clear hzv0
  cases zv with
  | false =>
    have hSA := Lib.hid (show labS iw ih xs false = { im := { w := 0, h := 0, px := [], err := 20 }, n := 0 } by unfold labS; rw [if_neg (by rw [hzv.out]; decide)]; rfl)
    have hlD := Lib.hid (show ([] : List Int).length = 0 from rfl)
    have hB : Below w.heap.size w (w.alloc (.cells #[.int .i64 iw, .int .i64 ih, .slice a n c] 24)) := below_al (Below.refl _ _) _
    have ka := (Blk.new w 24 #[.int .i64 iw, .int .i64 ih, .slice a n c])
    obtain ⟨W0, hW⟩ : ∃ W, (w.alloc (.cells #[.int .i64 iw, .int .i64 ih, .slice a n c] 24)) = W := ⟨_, rfl⟩
    rw [hW] at hB ka
    have m0 := ka.cell (i := 0) rfl
    have m1 := ka.cell (i := 1) rfl
    have m2 := ka.cell (i := 2) rfl
    go_enter Try.func11, Try.ntmps11
    go_wp2_with fail
    clear hW
    refine (alive_any _).mono ?_
    rintro e V1 ⟨rfl, hb⟩
    clear m0 m1 m2
    replace ka := ka.below hb ka.lt
    replace hB := hB.trans (hb.mono hB.size)
    have m0 := ka.cell (i := 0) rfl
    have m1 := ka.cell (i := 1) rfl
    have m2 := ka.cell (i := 2) rfl
    clear hb
    go_wp2_with fail
    have hcall := Label_any iw ih a c n xs hn false _ (by omega) ((hr.below (Nat.le_refl _) hB).mono hB.size)
    rw [hSA.out] at hcall
    refine hcall.mono ?_
    clear hcall
    rintro e V2 ⟨⟨v, hev, sl, hvl, hrow⟩, hb⟩
    have rA : V2.ownsRow w.heap.size 3 1 sl 0 ((([] : List Int)).map (Value.int .i64)) := row_base (row_len (k := (([] : List Int)).length) hlD.out hrow) hB.size
    obtain ⟨srAa, srAc, rfl⟩ := row_slice rA
    have he : e = .returned (.tuple #[.agg #[.int .i64 0, .int .i64 0, .slice srAa 0 srAc], .int .i64 0, .int .i64 20]) := by rw [hev, hvl]
    subst he
    clear hrow hev hvl
    clear m0 m1 m2
    replace ka := ka.below hb ka.lt
    replace hB := hB.trans (hb.mono hB.size)
    have m0 := ka.cell (i := 0) rfl
    have m1 := ka.cell (i := 1) rfl
    have m2 := ka.cell (i := 2) rfl
    clear hb
    obtain ⟨V3, hW⟩ : ∃ V3, V2.alloc (.cells #[.int .i64 0, .int .i64 0, .slice srAa 0 srAc] 24) = V3 := ⟨_, rfl⟩
    obtain ⟨bkA, hbx⟩ : ∃ bkA, V2.heap.size = bkA := ⟨_, rfl⟩
    have kA := Blk.new V2 24 #[.int .i64 0, .int .i64 0, .slice srAa 0 srAc]
    rw [hW, hbx] at kA
    have hb : Below V2.heap.size V2 V3 := alloc_below hW
    have ka' := ka.below hb ka.lt
    have lkakA := ka.lt
    rw [hbx] at lkakA
    have m0' := ka'.cell (i := 0) rfl
    have m1' := ka'.cell (i := 1) rfl
    have m2' := ka'.cell (i := 2) rfl
    have xa0 := kA.cell (i := 0) rfl
    have xa1 := kA.cell (i := 1) rfl
    have xa2 := kA.cell (i := 2) rfl
    have fxa0 := kA.frozen 0
    have fxa1 := kA.frozen 1
    have fxa2 := kA.frozen 2
    go_wp2_with fail
    clear hW
    clear hbx
    clear m0 m1 m2
    clear m0' m1' m2'
    replace ka := ka'
    clear ka'
    have m0 := ka.cell (i := 0) rfl
    have m1 := ka.cell (i := 1) rfl
    have m2 := ka.cell (i := 2) rfl
    replace rA := row_below rA hb
    replace hB := hB.trans (hb.mono hB.size)
    clear hb
    refine (Valid_any iw ih a c xs n hn _ (by omega) ((hr.below (Nat.le_refl _) hB).mono hB.size)).mono ?_
    rintro e V8 ⟨rfl, hb⟩
    rw [hzv.out]
    clear m0 m1 m2 xa0 xa1 xa2 fxa0 fxa1 fxa2
    replace ka := ka.below hb ka.lt
    replace kA := kA.below hb kA.lt
    replace rA := row_below rA hb
    replace hB := hB.trans (hb.mono hB.size)
    have m0 := ka.cell (i := 0) rfl
    have m1 := ka.cell (i := 1) rfl
    have m2 := ka.cell (i := 2) rfl
    have xa0 := kA.cell (i := 0) rfl
    have xa1 := kA.cell (i := 1) rfl
    have xa2 := kA.cell (i := 2) rfl
    have fxa0 := kA.frozen 0
    have fxa1 := kA.frozen 1
    have fxa2 := kA.frozen 2
    clear hb
    go_wp2_with fail
    go_ret
    exact ⟨rfl, hB⟩
  | true =>
    obtain ⟨⟨i1, i2⟩, ⟨i3, i4⟩, hl, ha⟩ := vld_true hzv.out
    obtain ⟨pw, rfl⟩ : ∃ pw : Nat, iw = (pw : Int) := ⟨iw.toNat, by omega⟩
    obtain ⟨ph, rfl⟩ : ∃ ph : Nat, ih = (ph : Int) := ⟨ih.toNat, by omega⟩
    have hN : pw * ph = n := by
      have h2 : ((pw * ph : Nat) : Int) = (pw : Int) * ph := by simp
      have := hn.out
      omega
    have hn0 : 0 < n := by rw [← hN]; exact Nat.mul_pos (by omega) (by omega)
    have hn256 : n ≤ 256 := by rw [← hN]; exact Nat.mul_le_mul (show pw ≤ 16 by omega) (show ph ≤ 16 by omega)
    obtain ⟨nz, hnz⟩ : ∃ f, isNz xs = f := ⟨_, rfl⟩
    have hSe := fun ys (hv : vld pw ph ys = true) => show labS pw ph ys false = { im := { w := pw, h := ph, px := (labTo n pw false (isNz ys) n).1, err := 0 }, n := (ln n pw false (isNz ys) n : Nat) } by
      unfold labS ln
      rw [if_pos hv]
      simp only [Int.toNat_natCast, hN]
    have hSA := Lib.hid (hSe xs hzv.out)
    rw [hnz] at hSA
    have hlA := Lib.hid (show (labTo n pw false nz n).1.length = n from labTo_len n)
    have hA0 := Lib.hid (fun k : Nat => show 0 ≤ px (labTo n pw false nz n).1 k ∧ px (labTo n pw false nz n).1 k ≤ (n : Int) from ⟨(fin_bd (N := n) (pw := pw) (e := false) (nz := nz) k).1, Int.le_trans (fin_bd (N := n) (pw := pw) (e := false) (nz := nz) k).2 (by have : ln n pw false nz n ≤ n := labTo_n n; omega)⟩)
    have hSn := Lib.hid (show ln n pw false nz n ≤ n from labTo_n n)
    by_cases h1 : part < 1
    · have e1 : decide (part < 1) = true := decide_eq_true h1
      obtain ⟨ba, oa, hae, hba, hca⟩ := rd_at hr hn.out hn0
      clear hca hl ha hN hnz hSe
      generalize (labTo n pw false nz n).1 = A at *
      generalize ln n pw false nz = S at *
      subst hae
      have hB : Below w.heap.size w (w.alloc (.cells #[.int .i64 pw, .int .i64 ph, .slice (some ⟨ba, oa, none⟩) n c] 24)) := below_al (Below.refl _ _) _
      have ka := (Blk.new w 24 #[.int .i64 pw, .int .i64 ph, .slice (some ⟨ba, oa, none⟩) n c])
      obtain ⟨W0, hW⟩ : ∃ W, (w.alloc (.cells #[.int .i64 pw, .int .i64 ph, .slice (some ⟨ba, oa, none⟩) n c] 24)) = W := ⟨_, rfl⟩
      rw [hW] at hB ka
      have m0 := ka.cell (i := 0) rfl
      have m1 := ka.cell (i := 1) rfl
      have m2 := ka.cell (i := 2) rfl
      go_enter Try.func11, Try.ntmps11
      go_wp2_with fail
      clear hW
      refine (alive_any _).mono ?_
      rintro e V1 ⟨rfl, hb⟩
      clear m0 m1 m2
      replace ka := ka.below hb ka.lt
      replace hB := hB.trans (hb.mono hB.size)
      have m0 := ka.cell (i := 0) rfl
      have m1 := ka.cell (i := 1) rfl
      have m2 := ka.cell (i := 2) rfl
      clear hb
      go_wp2_with fail
      have hcall := Label_any pw ph (some ⟨ba, oa, none⟩) c n xs hn false _ (by omega) ((hr.below (Nat.le_refl _) hB).mono hB.size)
      rw [hSA.out] at hcall
      refine hcall.mono ?_
      clear hcall
      rintro e V2 ⟨⟨v, hev, sl, hvl, hrow⟩, hb⟩
      have rA : V2.ownsRow w.heap.size 3 1 sl n ((A).map (Value.int .i64)) := row_base (row_len (k := (A).length) hlA.out hrow) hB.size
      obtain ⟨srAa, srAc, rfl⟩ := row_slice rA
      have he : e = .returned (.tuple #[.agg #[.int .i64 pw, .int .i64 ph, .slice srAa n srAc], .int .i64 (S n : Int), .int .i64 0]) := by rw [hev, hvl]
      subst he
      clear hrow hev hvl
      clear m0 m1 m2
      replace ka := ka.below hb ka.lt
      replace hB := hB.trans (hb.mono hB.size)
      have m0 := ka.cell (i := 0) rfl
      have m1 := ka.cell (i := 1) rfl
      have m2 := ka.cell (i := 2) rfl
      clear hb
      obtain ⟨V3, hW⟩ : ∃ V3, V2.alloc (.cells #[.int .i64 pw, .int .i64 ph, .slice srAa n srAc] 24) = V3 := ⟨_, rfl⟩
      obtain ⟨bkA, hbx⟩ : ∃ bkA, V2.heap.size = bkA := ⟨_, rfl⟩
      have kA := Blk.new V2 24 #[.int .i64 pw, .int .i64 ph, .slice srAa n srAc]
      rw [hW, hbx] at kA
      have hb : Below V2.heap.size V2 V3 := alloc_below hW
      have ka' := ka.below hb ka.lt
      have lkakA := ka.lt
      rw [hbx] at lkakA
      have m0' := ka'.cell (i := 0) rfl
      have m1' := ka'.cell (i := 1) rfl
      have m2' := ka'.cell (i := 2) rfl
      have xa0 := kA.cell (i := 0) rfl
      have xa1 := kA.cell (i := 1) rfl
      have xa2 := kA.cell (i := 2) rfl
      have fxa0 := kA.frozen 0
      have fxa1 := kA.frozen 1
      have fxa2 := kA.frozen 2
      go_wp2_with fail
      clear hW
      clear hbx
      clear m0 m1 m2
      clear m0' m1' m2'
      replace ka := ka'
      clear ka'
      have m0 := ka.cell (i := 0) rfl
      have m1 := ka.cell (i := 1) rfl
      have m2 := ka.cell (i := 2) rfl
      replace rA := row_below rA hb
      replace hB := hB.trans (hb.mono hB.size)
      clear hb
      refine (Valid_any pw ph (some ⟨ba, oa, none⟩) c xs n hn _ (by omega) ((hr.below (Nat.le_refl _) hB).mono hB.size)).mono ?_
      rintro e V8 ⟨rfl, hb⟩
      rw [hzv.out]
      clear m0 m1 m2 xa0 xa1 xa2 fxa0 fxa1 fxa2
      replace ka := ka.below hb ka.lt
      replace kA := kA.below hb kA.lt
      replace rA := row_below rA hb
      replace hB := hB.trans (hb.mono hB.size)
      have m0 := ka.cell (i := 0) rfl
      have m1 := ka.cell (i := 1) rfl
      have m2 := ka.cell (i := 2) rfl
      have xa0 := kA.cell (i := 0) rfl
      have xa1 := kA.cell (i := 1) rfl
      have xa2 := kA.cell (i := 2) rfl
      have fxa0 := kA.frozen 0
      have fxa1 := kA.frozen 1
      have fxa2 := kA.frozen 2
      clear hb
      go_wp2_with fail
      go_ret
      exact ⟨rfl, hB⟩
    · have e1 : decide (part < 1) = false := decide_eq_false h1
      by_cases h2 : (ln n pw false nz n : Int) < part
      · have e2 : decide ((ln n pw false nz n : Int) < part) = true := decide_eq_true h2
        obtain ⟨ba, oa, hae, hba, hca⟩ := rd_at hr hn.out hn0
        clear hca hl ha hN hnz hSe
        generalize (labTo n pw false nz n).1 = A at *
        generalize ln n pw false nz = S at *
        subst hae
        have hB : Below w.heap.size w (w.alloc (.cells #[.int .i64 pw, .int .i64 ph, .slice (some ⟨ba, oa, none⟩) n c] 24)) := below_al (Below.refl _ _) _
        have ka := (Blk.new w 24 #[.int .i64 pw, .int .i64 ph, .slice (some ⟨ba, oa, none⟩) n c])
        obtain ⟨W0, hW⟩ : ∃ W, (w.alloc (.cells #[.int .i64 pw, .int .i64 ph, .slice (some ⟨ba, oa, none⟩) n c] 24)) = W := ⟨_, rfl⟩
        rw [hW] at hB ka
        have m0 := ka.cell (i := 0) rfl
        have m1 := ka.cell (i := 1) rfl
        have m2 := ka.cell (i := 2) rfl
        go_enter Try.func11, Try.ntmps11
        go_wp2_with fail
        clear hW
        refine (alive_any _).mono ?_
        rintro e V1 ⟨rfl, hb⟩
        clear m0 m1 m2
        replace ka := ka.below hb ka.lt
        replace hB := hB.trans (hb.mono hB.size)
        have m0 := ka.cell (i := 0) rfl
        have m1 := ka.cell (i := 1) rfl
        have m2 := ka.cell (i := 2) rfl
        clear hb
        go_wp2_with fail
        have hcall := Label_any pw ph (some ⟨ba, oa, none⟩) c n xs hn false _ (by omega) ((hr.below (Nat.le_refl _) hB).mono hB.size)
        rw [hSA.out] at hcall
        refine hcall.mono ?_
        clear hcall
        rintro e V2 ⟨⟨v, hev, sl, hvl, hrow⟩, hb⟩
        have rA : V2.ownsRow w.heap.size 3 1 sl n ((A).map (Value.int .i64)) := row_base (row_len (k := (A).length) hlA.out hrow) hB.size
        obtain ⟨srAa, srAc, rfl⟩ := row_slice rA
        have he : e = .returned (.tuple #[.agg #[.int .i64 pw, .int .i64 ph, .slice srAa n srAc], .int .i64 (S n : Int), .int .i64 0]) := by rw [hev, hvl]
        subst he
        clear hrow hev hvl
        clear m0 m1 m2
        replace ka := ka.below hb ka.lt
        replace hB := hB.trans (hb.mono hB.size)
        have m0 := ka.cell (i := 0) rfl
        have m1 := ka.cell (i := 1) rfl
        have m2 := ka.cell (i := 2) rfl
        clear hb
        obtain ⟨V3, hW⟩ : ∃ V3, V2.alloc (.cells #[.int .i64 pw, .int .i64 ph, .slice srAa n srAc] 24) = V3 := ⟨_, rfl⟩
        obtain ⟨bkA, hbx⟩ : ∃ bkA, V2.heap.size = bkA := ⟨_, rfl⟩
        have kA := Blk.new V2 24 #[.int .i64 pw, .int .i64 ph, .slice srAa n srAc]
        rw [hW, hbx] at kA
        have hb : Below V2.heap.size V2 V3 := alloc_below hW
        have ka' := ka.below hb ka.lt
        have lkakA := ka.lt
        rw [hbx] at lkakA
        have m0' := ka'.cell (i := 0) rfl
        have m1' := ka'.cell (i := 1) rfl
        have m2' := ka'.cell (i := 2) rfl
        have xa0 := kA.cell (i := 0) rfl
        have xa1 := kA.cell (i := 1) rfl
        have xa2 := kA.cell (i := 2) rfl
        have fxa0 := kA.frozen 0
        have fxa1 := kA.frozen 1
        have fxa2 := kA.frozen 2
        go_wp2_with fail
        clear hW
        clear hbx
        clear m0 m1 m2
        clear m0' m1' m2'
        replace ka := ka'
        clear ka'
        have m0 := ka.cell (i := 0) rfl
        have m1 := ka.cell (i := 1) rfl
        have m2 := ka.cell (i := 2) rfl
        replace rA := row_below rA hb
        replace hB := hB.trans (hb.mono hB.size)
        clear hb
        refine (Valid_any pw ph (some ⟨ba, oa, none⟩) c xs n hn _ (by omega) ((hr.below (Nat.le_refl _) hB).mono hB.size)).mono ?_
        rintro e V8 ⟨rfl, hb⟩
        rw [hzv.out]
        clear m0 m1 m2 xa0 xa1 xa2 fxa0 fxa1 fxa2
        replace ka := ka.below hb ka.lt
        replace kA := kA.below hb kA.lt
        replace rA := row_below rA hb
        replace hB := hB.trans (hb.mono hB.size)
        have m0 := ka.cell (i := 0) rfl
        have m1 := ka.cell (i := 1) rfl
        have m2 := ka.cell (i := 2) rfl
        have xa0 := kA.cell (i := 0) rfl
        have xa1 := kA.cell (i := 1) rfl
        have xa2 := kA.cell (i := 2) rfl
        have fxa0 := kA.frozen 0
        have fxa1 := kA.frozen 1
        have fxa2 := kA.frozen 2
        clear hb
        go_wp2_with fail
        go_ret
        exact ⟨rfl, hB⟩
      · have e2 : decide ((ln n pw false nz n : Int) < part) = false := decide_eq_false h2
        have hp1 : 1 ≤ part := by omega
        have hpn : part ≤ (ln n pw false nz n : Int) := by omega
        have hC0 := Lib.hid (lose_zero (n := n) (A := (labTo n pw false nz n).1) (p := part) hn.out)
        have hlC := Lib.hid (fun k => lose_len n (labTo n pw false nz n).1 xs part k)
        have hCs := Lib.hid (fun (k : Nat) (hk : k < n) => lose_step (A := (labTo n pw false nz n).1) (xs := xs) (p := part) hk)
        have hvC : vld pw ph (lose n (labTo n pw false nz n).1 xs part n) = true := by
          have hr : allIn (-2147483648) 2147483648 (lose n (labTo n pw false nz n).1 xs part n) = true := lose_rng ha n
          simp only [vld, Bool.and_eq_true, inR_true, decide_eq_true_eq, hr, lose_len]
          refine ⟨⟨⟨⟨by omega, by omega⟩, by omega, by omega⟩, ?_⟩, trivial⟩
          rw [← hN]; simp
        have hnzC : isNz (lose n (labTo n pw false nz n).1 xs part n) = leftNz n pw false nz part := by
          have hnzk : ∀ k, nz k = decide (px xs (k : Nat) ≠ 0) := fun k => by rw [← hnz]; rfl
          funext k
          show decide (px (lose n (labTo n pw false nz n).1 xs part n) k ≠ 0) = (nz k && decide (fin n pw false nz k ≠ part))
          by_cases hk : k < n
          · rw [lose_px hk]
            by_cases hc : fin n pw false nz k = part
            · rw [if_pos ⟨hk, hc⟩]; simp [hc]
            · rw [if_neg (fun h => hc h.2), hnzk, decide_eq_true hc]; simp
          · rw [px_out (by rw [lose_len]; omega), hnzk, px_out (L := xs) (by rw [hn.out]; omega)]; simp
        have hlb := lb_less (N := n) (pw := pw) (e := false) (nz := nz) hp1 n (Nat.le_refl _)
        have hSB0 := hSe _ hvC
        rw [hnzC, hlb.2, if_pos hpn] at hSB0
        have hSB := Lib.hid hSB0
        clear hSB0
        have hlB := Lib.hid (show (labTo n pw false (leftNz n pw false nz part) n).1.length = n from labTo_len n)
        have hless := Lib.hid (fun (k : Nat) (hk : k < n) => show px (labTo n pw false (leftNz n pw false nz part) n).1 k = less part (px (labTo n pw false nz n).1 k) from hlb.1 k hk)
        obtain ⟨ba, oa, hae, hba, hca⟩ := rd_at hr hn.out hn0
        clear hca hl ha hN hnz hSe hvC hnzC hlb
        generalize lose n (labTo n pw false nz n).1 xs part = C at *
        generalize (labTo n pw false (leftNz n pw false nz part) n).1 = B at *
        generalize (labTo n pw false nz n).1 = A at *
        generalize ln n pw false nz = S at *
        have hlCn := Lib.hid (hlC.out n)
        subst hae
        have hS1 : 1 ≤ (S n : Int) := by omega
        have hS2 : (S n : Int) ≤ 256 := by have := hSn.out; omega
        clear h1 h2
        have hB : Below w.heap.size w (w.alloc (.cells #[.int .i64 pw, .int .i64 ph, .slice (some ⟨ba, oa, none⟩) n c] 24)) := below_al (Below.refl _ _) _
        have ka := (Blk.new w 24 #[.int .i64 pw, .int .i64 ph, .slice (some ⟨ba, oa, none⟩) n c])
        obtain ⟨W0, hW⟩ : ∃ W, (w.alloc (.cells #[.int .i64 pw, .int .i64 ph, .slice (some ⟨ba, oa, none⟩) n c] 24)) = W := ⟨_, rfl⟩
        rw [hW] at hB ka
        have m0 := ka.cell (i := 0) rfl
        have m1 := ka.cell (i := 1) rfl
        have m2 := ka.cell (i := 2) rfl
        go_enter Try.func11, Try.ntmps11
        go_wp2_with fail
        clear hW
        refine (alive_any _).mono ?_
        rintro e V1 ⟨rfl, hb⟩
        clear m0 m1 m2
        replace ka := ka.below hb ka.lt
        replace hB := hB.trans (hb.mono hB.size)
        have m0 := ka.cell (i := 0) rfl
        have m1 := ka.cell (i := 1) rfl
        have m2 := ka.cell (i := 2) rfl
        clear hb
        go_wp2_with fail
        have hcall := Label_any pw ph (some ⟨ba, oa, none⟩) c n xs hn false _ (by omega) ((hr.below (Nat.le_refl _) hB).mono hB.size)
        rw [hSA.out] at hcall
        refine hcall.mono ?_
        clear hcall
        rintro e V2 ⟨⟨v, hev, sl, hvl, hrow⟩, hb⟩
        have rA : V2.ownsRow w.heap.size 3 1 sl n ((A).map (Value.int .i64)) := row_base (row_len (k := (A).length) hlA.out hrow) hB.size
        obtain ⟨srAa, srAc, rfl⟩ := row_slice rA
        have he : e = .returned (.tuple #[.agg #[.int .i64 pw, .int .i64 ph, .slice srAa n srAc], .int .i64 (S n : Int), .int .i64 0]) := by rw [hev, hvl]
        subst he
        clear hrow hev hvl
        clear m0 m1 m2
        replace ka := ka.below hb ka.lt
        replace hB := hB.trans (hb.mono hB.size)
        have m0 := ka.cell (i := 0) rfl
        have m1 := ka.cell (i := 1) rfl
        have m2 := ka.cell (i := 2) rfl
        clear hb
        obtain ⟨V3, hW⟩ : ∃ V3, V2.alloc (.cells #[.int .i64 pw, .int .i64 ph, .slice srAa n srAc] 24) = V3 := ⟨_, rfl⟩
        obtain ⟨bkA, hbx⟩ : ∃ bkA, V2.heap.size = bkA := ⟨_, rfl⟩
        have kA := Blk.new V2 24 #[.int .i64 pw, .int .i64 ph, .slice srAa n srAc]
        rw [hW, hbx] at kA
        have hb : Below V2.heap.size V2 V3 := alloc_below hW
        have ka' := ka.below hb ka.lt
        have lkakA := ka.lt
        rw [hbx] at lkakA
        have m0' := ka'.cell (i := 0) rfl
        have m1' := ka'.cell (i := 1) rfl
        have m2' := ka'.cell (i := 2) rfl
        have xa0 := kA.cell (i := 0) rfl
        have xa1 := kA.cell (i := 1) rfl
        have xa2 := kA.cell (i := 2) rfl
        have fxa0 := kA.frozen 0
        have fxa1 := kA.frozen 1
        have fxa2 := kA.frozen 2
        go_wp2_with fail
        clear hW
        clear hbx
        clear m0 m1 m2
        clear m0' m1' m2'
        replace ka := ka'
        clear ka'
        have m0 := ka.cell (i := 0) rfl
        have m1 := ka.cell (i := 1) rfl
        have m2 := ka.cell (i := 2) rfl
        replace rA := row_below rA hb
        replace hB := hB.trans (hb.mono hB.size)
        clear hb
        refine (Valid_any pw ph (some ⟨ba, oa, none⟩) c xs n hn _ (by omega) ((hr.below (Nat.le_refl _) hB).mono hB.size)).mono ?_
        rintro e V8 ⟨rfl, hb⟩
        rw [hzv.out]
        clear m0 m1 m2 xa0 xa1 xa2 fxa0 fxa1 fxa2
        replace ka := ka.below hb ka.lt
        replace kA := kA.below hb kA.lt
        replace rA := row_below rA hb
        replace hB := hB.trans (hb.mono hB.size)
        have m0 := ka.cell (i := 0) rfl
        have m1 := ka.cell (i := 1) rfl
        have m2 := ka.cell (i := 2) rfl
        have xa0 := kA.cell (i := 0) rfl
        have xa1 := kA.cell (i := 1) rfl
        have xa2 := kA.cell (i := 2) rfl
        have fxa0 := kA.frozen 0
        have fxa1 := kA.frozen 1
        have fxa2 := kA.frozen 2
        clear hb
        obtain ⟨bA, oA, hAa, hbA8, hcA⟩ := rd_at (row_rd' hlA.out rA) hlA.out hn0
        subst hAa
        have hcAH := Lib.hid hcA
        have hB8 := hB
        clear hcA rA
        go_wp2_with fail
        refine (Twin_any pw ph (some ⟨ba, oa, none⟩) c n xs hn _ (by omega) ((hr.below (Nat.le_refl _) hB).mono hB.size) (Lib.hid (fun h => nomatch h))).mono ?_
        rintro e V9 ⟨v, hev, ⟨sl, hvl, hrow⟩, hb⟩
        rw [hn.out] at hrow
        obtain ⟨g, gc, hsl, hg8⟩ := row_some hrow hn0
        subst hsl hvl hev
        clear m0 m1 m2 xa0 xa1 xa2 fxa0 fxa1 fxa2
        replace ka := ka.below hb ka.lt
        replace kA := kA.below hb kA.lt
        replace hB := hB.trans (hb.mono hB.size)
        have m0 := ka.cell (i := 0) rfl
        have m1 := ka.cell (i := 1) rfl
        have m2 := ka.cell (i := 2) rfl
        have xa0 := kA.cell (i := 0) rfl
        have xa1 := kA.cell (i := 1) rfl
        have xa2 := kA.cell (i := 2) rfl
        have fxa0 := kA.frozen 0
        have fxa1 := kA.frozen 1
        have fxa2 := kA.frozen 2
        have rowC := hrow
        have hB89 := hb
        clear hrow hb
        obtain ⟨V4, hW⟩ : ∃ V4, V9.alloc (.cells #[.int .i64 pw, .int .i64 ph, .slice (some ⟨g, 0, none⟩) n gc] 24) = V4 := ⟨_, rfl⟩
        obtain ⟨bkC, hbx⟩ : ∃ bkC, V9.heap.size = bkC := ⟨_, rfl⟩
        have kC := Blk.new V9 24 #[.int .i64 pw, .int .i64 ph, .slice (some ⟨g, 0, none⟩) n gc]
        rw [hW, hbx] at kC
        have hb : Below V9.heap.size V9 V4 := alloc_below hW
        have ka' := ka.below hb ka.lt
        have lkakC := ka.lt
        rw [hbx] at lkakC
        have kA' := kA.below hb kA.lt
        have lkAkC := kA.lt
        rw [hbx] at lkAkC
        have m0' := ka'.cell (i := 0) rfl
        have m1' := ka'.cell (i := 1) rfl
        have m2' := ka'.cell (i := 2) rfl
        have xa0' := kA'.cell (i := 0) rfl
        have xa1' := kA'.cell (i := 1) rfl
        have xa2' := kA'.cell (i := 2) rfl
        have fxa0' := kA'.frozen 0
        have fxa1' := kA'.frozen 1
        have fxa2' := kA'.frozen 2
        have xc0 := kC.cell (i := 0) rfl
        have xc1 := kC.cell (i := 1) rfl
        have xc2 := kC.cell (i := 2) rfl
        have fxc0 := kC.frozen 0
        have fxc1 := kC.frozen 1
        have fxc2 := kC.frozen 2
        go_wp2_with fail
        clear hW
        clear hbx
        clear m0 m1 m2 xa0 xa1 xa2 fxa0 fxa1 fxa2
        clear m0' m1' m2' xa0' xa1' xa2' fxa0' fxa1' fxa2'
        replace ka := ka'
        clear ka'
        replace kA := kA'
        clear kA'
        have m0 := ka.cell (i := 0) rfl
        have m1 := ka.cell (i := 1) rfl
        have m2 := ka.cell (i := 2) rfl
        have xa0 := kA.cell (i := 0) rfl
        have xa1 := kA.cell (i := 1) rfl
        have xa2 := kA.cell (i := 2) rfl
        have fxa0 := kA.frozen 0
        have fxa1 := kA.frozen 1
        have fxa2 := kA.frozen 2
        replace rowC := row_below rowC hb
        replace hB := hB.trans (hb.mono hB.size)
        have hB8V := hB89.trans (hb.mono hB89.size)
        clear hb hB89
        clear m0 m1 m2 xa0 xa1 xa2 fxa0 fxa1 fxa2 xc0 xc1 xc2 fxc0 fxc1 fxc2
        have hBg : g < V4.heap.size := (rowC.lt g rfl).2
        go_loopw [10] (fun i wr => ∃ k : Nat, k ≤ n ∧ i = .int .i64 (k : Int) ∧ V4.grownBy wr (some g) ∧ wr.ownsRow V8.heap.size 3 1 (.slice (some ⟨g, 0, none⟩) n gc) n ((C k).map (Value.int .i64))) (fun i _ => n - (intOf i).toNat)
        case atStart => exact ⟨0, Nat.zero_le _, rfl, ⟨rfl, rfl, rfl, Nat.le_refl _, fun _ _ _ => rfl⟩, by rw [hC0.out]; exact rowC⟩
        case round =>
          have rowC0 := rowC
          clear rowC
          obtain ⟨k, hkn, rfl, hG, rowC⟩ := hrel
          have hBw : Below V8.heap.size V8 wr := hB8V.grown hG hB8V.size (fun j e => by cases e; exact hg8)
          have kA' := kA.kept hG (kA.not_row (by decide) rowC0)
          have kC' := kC.kept hG (kC.not_row (by decide) rowC0)
          have x2 := kA'.cell (i := 2) rfl
          have y2 := kC'.cell (i := 2) rfl
          by_cases hk : k < n
          · have cA : wr.cell? ⟨bA, oA + k, none⟩ = some (.int .i64 (px A k)) := (hBw.cell (p := ⟨bA, oA + k, none⟩) hbA8).trans (hcAH.out k hk)
            obtain ⟨xv, hxv0⟩ : ∃ v, px A (k : Int) = v := ⟨_, rfl⟩
            have hCs0 := hCs.out k hk
            rw [hxv0] at cA hCs0
            clear hxv0
            by_cases hp : xv = part
            · subst hp
              rw [if_pos rfl] at hCs0
              have hCsH := Lib.hid hCs0
              clear hCs0
              have hfr := rowC.frozenAt k
              have ct := rowC.cellAt k (by omega)
              have ct2 : wr.cell? ⟨g, k, none⟩ = some (.int .i64 (px (C k) k)) := by rw [ct, List.getElem?_map, List.getElem?_eq_getElem (by rw [hlC.out]; exact hk), px_nat, List.getElem?_eq_getElem (by rw [hlC.out]; exact hk)]; rfl
              clear ct
              go_wp2_with fail
              go_roundw
              case rel =>
                have hst := rowC.stored k (.int .i64 0)
                have h1 := hst.1
                rw [map_set_int, hCsH.out] at h1
                exact ⟨k + 1, by omega, by go_num, grown_trans hG hst.2, h1⟩
              case measure => simp [intOf]; omega
            · have e1 : (xv == part) = false := by rw [beq_eq_false_iff_ne]; exact hp
              rw [if_neg hp] at hCs0
              have hCsH := Lib.hid hCs0
              clear hCs0 hp
              go_wp2_with fail
              go_roundw
              case rel => exact ⟨k + 1, by omega, by go_num, hG, by rw [← hCsH.out]; exact rowC⟩
              case measure => simp [intOf]; omega
          · have hkk : n = k := by omega
            subst hkk
            have hBr : Below w.heap.size w wr := hB8.trans (hBw.mono hB8.size)
            have z0 := kC'.cell (i := 0) rfl
            have z1 := kC'.cell (i := 1) rfl
            have cAw : Hid (∀ j, j < n → wr.cell? ⟨bA, oA + j, none⟩ = some (.int .i64 (px A j))) := Lib.hid (fun j hj => (hBw.cell (p := ⟨bA, oA + j, none⟩) hbA8).trans (hcAH.out j hj))
            have hbAw : bA < wr.heap.size := Nat.lt_of_lt_of_le hbA8 hBw.size
            clear hcAH hG rowC0
            go_wp2_with fail
            have hB := hBr
            clear hBr x2 y2 z0 z1
            have x0 := kA'.cell (i := 0) rfl
            have x1 := kA'.cell (i := 1) rfl
            have x2 := kA'.cell (i := 2) rfl
            have y0 := kC'.cell (i := 0) rfl
            have y1 := kC'.cell (i := 1) rfl
            have y2 := kC'.cell (i := 2) rfl
            have hcall := Label_any pw ph (some ⟨g, 0, none⟩) gc n (C n) hlCn false _ (by omega) (row_rd' hlCn.out rowC)
            rw [hSB.out] at hcall
            refine hcall.mono ?_
            clear hcall
            rintro e V31 ⟨⟨v, hev, sl, hvl, hrow⟩, hb⟩
            have rB : V31.ownsRow w.heap.size 3 1 sl n ((B).map (Value.int .i64)) := row_base (row_len (k := (B).length) hlB.out hrow) hB.size
            obtain ⟨srBa, srBc, rfl⟩ := row_slice rB
            have he : e = .returned (.tuple #[.agg #[.int .i64 pw, .int .i64 ph, .slice srBa n srBc], .int .i64 ((S n : Int) - 1), .int .i64 0]) := by rw [hev, hvl]
            subst he
            clear hrow hev hvl
            clear x0 x1 x2 y0 y1 y2
            replace kA' := kA'.below hb kA'.lt
            replace kC' := kC'.below hb kC'.lt
            replace rowC := row_below rowC hb
            replace hB := hB.trans (hb.mono hB.size)
            have x0 := kA'.cell (i := 0) rfl
            have x1 := kA'.cell (i := 1) rfl
            have x2 := kA'.cell (i := 2) rfl
            have y0 := kC'.cell (i := 0) rfl
            have y1 := kC'.cell (i := 1) rfl
            have y2 := kC'.cell (i := 2) rfl
            have hbw0 := hb
            clear hb
            have kB := Blk.new V31 24 #[.int .i64 pw, .int .i64 ph, .slice srBa n srBc]
            obtain ⟨V40, hW⟩ : ∃ X, V31.alloc (.cells #[.int .i64 pw, .int .i64 ph, .slice srBa n srBc] 24) = X := ⟨_, rfl⟩
            obtain ⟨bkB, hbx⟩ : ∃ b, V31.heap.size = b := ⟨_, rfl⟩
            rw [hW, hbx] at kB
            have hb : Below V31.heap.size V31 V40 := alloc_below hW
            have hlB40 := kB.lt
            have kA2 := kA'.below hb kA'.lt
            have w0 := kA2.cell (i := 0) rfl
            have w1 := kA2.cell (i := 1) rfl
            have w2 := kA2.cell (i := 2) rfl
            have u0 := kB.cell (i := 0) rfl
            have u1 := kB.cell (i := 1) rfl
            have u2 := kB.cell (i := 2) rfl
            have fu0 := kB.frozen 0
            have fu1 := kB.frozen 1
            have fu2 := kB.frozen 2
            have lAB := kA'.lt
            rw [hbx] at lAB
            go_wp2_with fail
            clear hbx
            clear x0 x1 x2 y0 y1 y2
            clear hW w0 w1 w2 u0 u1 u2 fu0 fu1 fu2
            replace rB := row_below rB hb
            replace hB := hB.trans (hb.mono hB.size)
            have hbw : Below wr.heap.size wr V40 := hbw0.trans (hb.mono hbw0.size)
            clear hb rowC
            obtain ⟨bB, oB, hBa, hbB2, hcB⟩ := rd_at (row_rd' hlB.out rB) hlB.out hn0
            subst hBa
            have hcBH := Lib.hid hcB
            clear hcB
            go_loop [14] (fun i => ∃ k : Nat, k ≤ n ∧ i = .int .i64 (k : Int)) (fun i => n - (intOf i).toNat)
            case atStart => exact ⟨0, Nat.zero_le _, rfl⟩
            case round =>
              obtain ⟨k, hkn, rfl⟩ := hrel
              have w2 := kA2.cell (i := 2) rfl
              have u2 := kB.cell (i := 2) rfl
              by_cases hk : k < n
              · have cA := (hbw.cell (p := ⟨bA, oA + k, none⟩) hbAw).trans (cAw.out k hk)
                have cB := hcBH.out k hk
                have hl := hless.out k hk
                obtain ⟨hx0, hx1⟩ := hA0.out k
                obtain ⟨xv, hxv0⟩ : ∃ v, px A (k : Int) = v := ⟨_, rfl⟩
                rw [hxv0] at cA hl hx0 hx1
                rw [hl] at cB
                clear hxv0 hl
                unfold less at cB
                by_cases hp : xv = part
                · subst hp
                  rw [if_pos rfl] at cB
                  go_wp2_with fail
                  go_round
                  first
                  | (case rel => exact ⟨k + 1, by omega, by go_num⟩
                     case measure => simp [intOf]; omega)
                  | (refine ⟨⟨k + 1, by omega, by go_num⟩, ?_⟩
                     simp [intOf]; omega)
                · have e1 : (xv == part) = false := by rw [beq_eq_false_iff_ne]; exact hp
                  rw [if_neg hp] at cB
                  by_cases hq : part < xv
                  · have e2 : decide (part < xv) = true := decide_eq_true hq
                    rw [if_pos hq] at cB
                    clear hp hq
                    go_wp2_with fail
                    go_round
                    first
                    | (case rel => exact ⟨k + 1, by omega, by go_num⟩
                       case measure => simp [intOf]; omega)
                    | (refine ⟨⟨k + 1, by omega, by go_num⟩, ?_⟩
                       simp [intOf]; omega)
                  · have e2 : decide (part < xv) = false := decide_eq_false hq
                    rw [if_neg hq] at cB
                    clear hp hq
                    go_wp2_with fail
                    go_round
                    first
                    | (case rel => exact ⟨k + 1, by omega, by go_num⟩
                       case measure => simp [intOf]; omega)
                    | (refine ⟨⟨k + 1, by omega, by go_num⟩, ?_⟩
                       simp [intOf]; omega)
              · have hkk : n = k := by omega
                subst hkk
                go_wp2_with fail
                go_ret
                exact ⟨rfl, hB⟩

end Go.Proofs.Ytjglfeonoiljlaa
namespace Go.Proofs.Ytjglfeonoiljlaa.imageApart
open Go Go.ChangeShapes Go.WideShapes Go.ChangeAt Go.RowKit
set_option linter.unusedVariables false
set_option maxRecDepth 100000

theorem lifted (os : Os) (started : os.Started) (H : Type) (enc : TypeId × Value → H) :
    ReturnsInHanded {} Try.checked os 11 .any (Rows.imageApartSpec.pre6 enc Try.prog Try.f11 Rows.imageApartRow.domain false) (Rows.imageApartSpec.post enc Try.prog Try.f11 false true false false) := by
  refine returnsInHanded_of_change_sized (C := Try.checked) tryOwn started (by kernel_rfl) Try.func11
    (ChangeSpec.witness6 (enc := enc) (C := Try.checked) false ⟨#[], #[.agg #[.int .i64 0, .int .i64 0, .slice none 0 0], .int .i64 0], []⟩ 8 (by kernel_rfl) (by kernel_rfl) (by kernel_rfl) (by kernel_rfl)) ?_
  intro W base args ds gs before hval0 hW hcnd hsz _
  have hval : ∀ (j : Nat) t v, Try.f11.params[j]? = some t → args[j]? = some v → Value.okWide Try.prog W .any base t v := hval0
  have hW0 : DataW.Whole enc Try.prog Try.f11.params.toList [] false W args.toList ds gs before := hW
  obtain ⟨p, q, hA0, hV, rfl, hfz, hnd⟩ := hW0
  have hA : DataW.TrodAll enc Try.prog W 0 (fun _ => true) true Try.f11.params.toList args.toList ds p := hA0
  obtain ⟨rfl, rfl⟩ := trodVars_none hV
  have hsz' : (DataW.weightsEach Try.prog (Try.f11.params.toList ++ []) (ds ++ [])).all (· ≤ reachBytes) = true := hsz
  rw [Try.params11] at hA hval hsz'
  simp only [List.append_nil] at hsz'
  obtain ⟨v0, vs0, d0, ds0, p0, q0, hargs, rfl, rfl, h0, r0⟩ := trodAll_cons hA
  obtain ⟨v1, vs1, d1, ds1, p1, q1, rfl, rfl, rfl, h1, r1⟩ := trodAll_cons r0
  obtain ⟨rfl, rfl, rfl⟩ := trodAll_nil r1
  obtain rfl : args = #[v0, v1] := by cases args; simp_all
  obtain ⟨iw0, ih0, a0, n0, c0, xs0, rfl, hn0, hr0, hnil0, hm0, hxs0, wiw0, wih0⟩ := open_im (hval 0 _ _ rfl rfl) h0 (wt_at hsz' (j := 0) rfl rfl)
  obtain ⟨x1, rfl, _, _, w1⟩ := open_int Try.underlying3 (hval 1 _ _ rfl rfl) h1
  refine (law_apart iw0 ih0 a0 c0 n0 xs0 hn0 x1 W (by omega) hr0).mono fun e W' ⟨he, hb⟩ => ?_
  subst he
  exact ⟨_, rfl, post_true rfl (by kernel_rfl) rfl hW ⟨rfl, rfl, rfl⟩ hb⟩

theorem facts : joinedFacts Try.pinned.checked.prog 11 Try.f11 Rows.imageApartSpec Rows.imageApartRow = true :=
  facts_of _ _ _ _ rfl rfl (by kernel_rfl) (by kernel_rfl) (by kernel_rfl) (by kernel_rfl) (by kernel_rfl) (by kernel_rfl) (by kernel_rfl) rfl rfl (by kernel_rfl) (by kernel_rfl)

theorem over : Rows.imageApartRow.holds Try.pinned (OpenSpec.ofChange Rows.imageApartSpec) :=
  OpenClaim.holds_of_wide 11 Try.f11 rfl rfl rfl rfl rfl rfl rfl ⟨rfl, rfl, rfl, rfl, rfl⟩ rfl rfl rfl rfl rfl (by kernel_rfl) Try.func11 facts
    (of_decide_eq_true (by kernel_rfl)) (by unfold Func.isWrapper; first | (rw [if_pos (by decide +kernel)]; kernel_rfl) | (rw [if_neg (by decide +kernel)]; exact ⟨rfl, rfl⟩))
    (fun os started H enc _ => lifted os started H enc)

theorem proved : Rows.ImageApartSaid :=
  over
#print axioms proved
end Go.Proofs.Ytjglfeonoiljlaa.imageApart
