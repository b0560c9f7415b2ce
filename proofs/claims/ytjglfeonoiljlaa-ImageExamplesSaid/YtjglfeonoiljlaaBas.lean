/- The numbers of the basins: the lists of the loops. No program in sight. -/
import Derived.Test.YtjglfeonoiljlaaLab
import Derived.Test.YtjglfeonoiljlaaLow
namespace Go.Proofs.Ytjglfeonoiljlaa
set_option linter.unusedVariables false
set_option linter.unusedSimpArgs false

theorem px_layTo (f : Nat → Int) {N j : Nat} (k : Nat) (hj : j < N) : px (layTo f N k) j = if j < k then f j else 0 := by
  unfold layTo; exact px_map_range _ hj
theorem layTo_skip (f : Nat → Int) (N k : Nat) (hf : f k = 0) : layTo f N (k + 1) = layTo f N k := by
  unfold layTo
  refine List.map_congr_left fun i _ => ?_
  by_cases e : i = k
  · subst e; rw [if_pos (by omega), if_neg (by omega), hf]
  · by_cases h : i < k
    · rw [if_pos (by omega), if_pos h]
    · rw [if_neg (by omega), if_neg h]
theorem set_same {L : List Int} {k : Nat} (u v : Int) : (L.set k u).set k v = L.set k v := by
  refine List.ext_getElem (by simp) fun j h1 h2 => ?_
  simp only [List.getElem_set]
  split <;> rfl

variable {pw ph : Nat} {m : Nat → Int}

/-- Where each of the first k pixels leads to. -/
def lowsTo (pw ph : Nat) (m : Nat → Int) (k : Nat) : List Int := layTo (fun i => ((lowest pw ph m i : Nat) : Int)) (pw * ph) k
theorem lows_set {k : Nat} (hk : k < pw * ph) (u : Int) : ((lowsTo pw ph m k).set k u).set k ((lowest pw ph m k : Nat) : Int) = lowsTo pw ph m (k + 1) := by
  rw [set_same]; exact layTo_set _ hk
theorem lows_all {k : Nat} (hk : k < pw * ph) : px (lowsTo pw ph m (pw * ph)) k = ((lowest pw ph m k : Nat) : Int) := by
  unfold lowsTo; rw [px_layTo _ _ hk, if_pos hk]
theorem lows_len (k : Nat) : (lowsTo pw ph m k).length = pw * ph := layTo_length _ _ _

theorem ends_end {k : Nat} (h : lowest pw ph m k = k) : endsTo pw ph m (k + 1) = endsTo pw ph m k + 1 := by rw [endsTo, if_pos h]
theorem ends_skip {k : Nat} (h : lowest pw ph m k ≠ k) : endsTo pw ph m (k + 1) = endsTo pw ph m k := by rw [endsTo, if_neg h]
theorem endNums_end {k : Nat} (hk : k < pw * ph) (h : lowest pw ph m k = k) : (endNums pw ph m k).set k ((endsTo pw ph m k + 1 : Nat) : Int) = endNums pw ph m (k + 1) := by
  have := layTo_set (fun i => if lowest pw ph m i = i then ((endsTo pw ph m (i + 1) : Nat) : Int) else 0) hk
  simp only [h, if_true] at this
  rw [ends_end h] at this
  exact this
theorem endNums_skip {k : Nat} (h : lowest pw ph m k ≠ k) : endNums pw ph m (k + 1) = endNums pw ph m k := layTo_skip _ _ _ (if_neg h)
theorem endNums_zero : endNums pw ph m 0 = List.replicate (pw * ph) 0 := layTo_zero _ _
theorem endNums_len (k : Nat) : (endNums pw ph m k).length = pw * ph := layTo_length _ _ _

/-- The numbers, the first i put in. -/
def basTo (pw ph : Nat) (m : Nat → Int) (i : Nat) : List Int := (List.range (pw * ph)).map fun j =>
  if j < i then ((endsTo pw ph m (rootF pw ph m j + 1) : Nat) : Int) else if lowest pw ph m j = j then ((endsTo pw ph m (j + 1) : Nat) : Int) else 0
theorem basTo_zero : basTo pw ph m 0 = endNums pw ph m (pw * ph) := by
  unfold basTo endNums
  rw [layTo_all]
  exact List.map_congr_left fun j _ => by rw [if_neg (by omega)]
theorem basTo_all : basTo pw ph m (pw * ph) = basinL pw ph m := List.map_congr_left fun j hj => by rw [if_pos (List.mem_range.1 hj)]
theorem basTo_len (i : Nat) : (basTo pw ph m i).length = pw * ph := by simp [basTo]
theorem basTo_root (hm : ∀ k, -2147483648 ≤ m k) (i : Nat) {k : Nat} (hk : k < pw * ph) : px (basTo pw ph m i) (rootF pw ph m k) = ((endsTo pw ph m (rootF pw ph m k + 1) : Nat) : Int) := by
  obtain ⟨h1, h2⟩ := rootF_fixed hm hk
  unfold basTo
  rw [px_map_range _ h1, rootF_end h2, if_pos h2]
  split <;> rfl
theorem basTo_set (hm : ∀ k, -2147483648 ≤ m k) {i : Nat} (hi : i < pw * ph) : (basTo pw ph m i).set i (px (basTo pw ph m i) (rootF pw ph m i)) = basTo pw ph m (i + 1) := by
  rw [basTo_root hm i hi]
  refine px_ext (by simp [basTo_len]) fun j hj => ?_
  rw [List.length_set, basTo_len] at hj
  rw [px_set _ (by rw [basTo_len]; exact hi)]
  unfold basTo
  rw [px_map_range _ hj, px_map_range _ hj]
  by_cases e : j = i
  · subst e; rw [if_pos rfl, if_pos (by omega)]
  · rw [if_neg e]
    by_cases h : j < i
    · rw [if_pos h, if_pos (by omega)]
    · rw [if_neg h, if_neg (show ¬ j < i + 1 by omega)]

def basS (iw ih : Int) (xs : List Int) : NumR :=
  if vld iw ih xs = true then
    { im := { w := iw, h := ih, px := basinL iw.toNat ih.toNat (fun k => px xs k), err := 0 }, n := (endsTo iw.toNat ih.toNat (fun k => px xs k) (iw.toNat * ih.toNat) : Nat) }
  else { im := noIm 20, n := 0 }

end Go.Proofs.Ytjglfeonoiljlaa
