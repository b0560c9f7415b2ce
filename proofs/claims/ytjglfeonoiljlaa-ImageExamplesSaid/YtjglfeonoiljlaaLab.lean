/- The numbers of the parts of an image: the state after its first pixels, the search by lists, what falls. No program in sight. -/
import Derived.Test.YtjglfeonoiljlaaDist
namespace Go.Proofs.Ytjglfeonoiljlaa
set_option linter.unusedVariables false
set_option linter.unusedSimpArgs false

theorem px_nat (L : List Int) (k : Nat) : px L k = L[k]?.getD 0 := by unfold px; rw [Int.toNat_natCast]
theorem px_map_range (f : Nat → Int) {N k : Nat} (hk : k < N) : px ((List.range N).map f) k = f k := by
  rw [px_nat, List.getElem?_map, List.getElem?_range hk]; rfl
theorem px_out {L : List Int} {k : Nat} (hk : L.length ≤ k) : px L k = 0 := by
  rw [px_nat, List.getElem?_eq_none hk]; rfl
theorem px_ext {L L' : List Int} (hl : L.length = L'.length) (h : ∀ k, k < L.length → px L k = px L' k) : L = L' := by
  refine List.ext_getElem hl fun i h1 h2 => ?_
  have := h i h1
  rw [px_nat, px_nat, List.getElem?_eq_getElem h1, List.getElem?_eq_getElem h2] at this
  exact this

/-- How many are 0. -/
def zer : List Int → Nat
  | [] => 0
  | x :: r => (if x = 0 then 1 else 0) + zer r
theorem zer_le : ∀ (L : List Int), zer L ≤ L.length
  | [] => Nat.le_refl _
  | x :: r => by
    have := zer_le r
    simp only [zer, List.length_cons]
    split <;> omega
theorem zer_set : ∀ (L : List Int) (k : Nat) (v : Int), k < L.length → px L k = 0 → v ≠ 0 → zer (L.set k v) + 1 = zer L
  | [], _, _, h, _, _ => by simp at h
  | x :: r, 0, v, _, h0, hv => by
    have hx : x = 0 := by simpa [px] using h0
    subst hx
    simp [zer, hv]; omega
  | x :: r, k + 1, v, h, h0, hv => by
    have e : px (x :: r) ((k + 1 : Nat) : Int) = px r k := by unfold px; rw [Int.toNat_natCast, Int.toNat_natCast]; rfl
    rw [e] at h0
    have h2 := zer_set r k v (by simpa using h) h0 hv
    simp only [List.set_cons_succ, zer]
    omega

/-- Which pixels have a value that is not 0. -/
def isNz (xs : List Int) (k : Nat) : Bool := decide (px xs k ≠ 0)

open Classical in
noncomputable def labFill (N pw : Nat) (e : Bool) (nz : Nat → Bool) (L : List Int) (n : Int) (i : Nat) : List Int :=
  (List.range N).map fun k => if Reach N pw e nz (fun j => px L j) i k then n else px L k

/-- The numbers after the first pixels, and how many parts there are. -/
noncomputable def labTo (N pw : Nat) (e : Bool) (nz : Nat → Bool) : Nat → List Int × Nat
  | 0 => (List.replicate N 0, 0)
  | i + 1 => if nz i = true ∧ px (labTo N pw e nz i).1 i = 0 then (labFill N pw e nz (labTo N pw e nz i).1 (((labTo N pw e nz i).2 + 1 : Nat) : Int) i, (labTo N pw e nz i).2 + 1) else labTo N pw e nz i

variable {N pw : Nat} {e : Bool} {nz : Nat → Bool} {i : Nat} {L : List Int} {n : Nat}

theorem labTo_skip (h : labTo N pw e nz i = (L, n)) (hs : ¬ (nz i = true ∧ px L i = 0)) : labTo N pw e nz (i + 1) = (L, n) := by
  rw [labTo, h, if_neg hs]
theorem labFill_len (v : Int) : (labFill N pw e nz L v i).length = N := by simp [labFill]
theorem labTo_len : ∀ (i : Nat), (labTo N pw e nz i).1.length = N
  | 0 => by simp [labTo]
  | i + 1 => by
    rw [labTo]
    split
    · exact labFill_len _
    · exact labTo_len i
theorem labTo_n : ∀ (i : Nat), (labTo N pw e nz i).2 ≤ i
  | 0 => by simp [labTo]
  | i + 1 => by
    have := labTo_n i
    rw [labTo]
    split
    · exact Nat.succ_le_succ this
    · omega
theorem labTo_bd : ∀ (i k : Nat), 0 ≤ px (labTo N pw e nz i).1 k ∧ px (labTo N pw e nz i).1 k ≤ ((labTo N pw e nz i).2 : Nat)
  | 0, k => by
    have : px (List.replicate N (0 : Int)) k = 0 := by
      rw [px_nat, List.getElem?_replicate]; split <;> rfl
    simp [labTo, this]
  | i + 1, k => by
    have := labTo_bd i k
    rw [labTo]
    split
    · by_cases hk : k < N
      · unfold labFill
        simp only
        rw [px_map_range _ hk]
        split <;> omega
      · rw [px_out (by rw [labFill_len]; omega)]
        simp only
        omega
    · exact this
theorem lab_len (h : labTo N pw e nz i = (L, n)) : L.length = N := by have := labTo_len (N := N) (pw := pw) (e := e) (nz := nz) i; rwa [h] at this
theorem lab_n (h : labTo N pw e nz i = (L, n)) : n ≤ i := by have := labTo_n (N := N) (pw := pw) (e := e) (nz := nz) i; rwa [h] at this
theorem lab_bd (h : labTo N pw e nz i = (L, n)) (k : Nat) : 0 ≤ px L k ∧ px L k ≤ (n : Int) := by have := labTo_bd (N := N) (pw := pw) (e := e) (nz := nz) i k; rwa [h] at this
theorem lab_new (h : labTo N pw e nz i = (L, n)) (k : Nat) : px L k ≠ ((n + 1 : Nat) : Int) := by have := lab_bd h k; omega
theorem labTo_fill (h : labTo N pw e nz i = (L, n)) (hi : i < N) (hz : nz i = true) (h0 : px L i = 0) {L' : List Int} (hl : L'.length = N) (hF : Fill N pw e nz (fun k => px L k) ((n + 1 : Nat) : Int) i (fun k => px L' k) (fun _ => False)) :
    labTo N pw e nz (i + 1) = (L', n + 1) := by
  rw [labTo, h, if_pos ⟨hz, h0⟩]
  refine Prod.ext (px_ext (by rw [hl]; exact labFill_len _) fun k hk => ?_) rfl
  rw [labFill_len] at hk
  have h2 := hF.end_ (fun _ => id) hi hk
  unfold labFill
  rw [px_map_range _ hk]
  by_cases hr : Reach N pw e nz (fun j => px L j) i k
  · rw [if_pos hr]; exact (h2.1 hr).symm
  · rw [if_neg hr]; exact (h2.2 hr).symm

/-- The search of one part: numbers L now (L0 before it), pixels q that wait, pixels P that are being looked at. -/
structure LD (N pw : Nat) (e : Bool) (nz : Nat → Bool) (i : Nat) (L0 : List Int) (n : Nat) (L : List Int) (q : List Nat) (P : Nat → Prop) : Prop where
  len : L.length = N
  lt : ∀ k ∈ q, k < N ∧ px L k = ((n + 1 : Nat) : Int)
  fill : Fill N pw e nz (fun k => px L0 k) ((n + 1 : Nat) : Int) i (fun k => px L k) (fun k => k ∈ q ∨ P k)
  cap : zer L + q.length ≤ N

theorem LD.begin (h : labTo N pw e nz i = (L, n)) (hi : i < N) (h0 : px L i = 0) : LD N pw e nz i L n (L.set i ((n + 1 : Nat) : Int)) [i] (fun _ => False) where
  len := by rw [List.length_set]; exact lab_len h
  lt k hk := by
    simp at hk; subst hk
    exact ⟨hi, by rw [px_set _ (by rw [lab_len h]; exact hi), if_pos rfl]⟩
  fill := .begin (fun k _ => lab_new h k) h0 _ (by rw [px_set _ (by rw [lab_len h]; exact hi), if_pos rfl]) (fun k hk => by rw [px_set _ (by rw [lab_len h]; exact hi), if_neg hk]) _ (.inl (by simp))
  cap := by
    have h1 := zer_set L i ((n + 1 : Nat) : Int) (by rw [lab_len h]; exact hi) h0 (by omega)
    have h2 := zer_le L
    rw [lab_len h] at h2
    simp only [List.length_singleton]; omega

theorem LD.done {L0 : List Int} (h : LD N pw e nz i L0 n L [] (fun _ => False)) (hl : labTo N pw e nz i = (L0, n)) (hi : i < N) (hz : nz i = true) (h0 : px L0 i = 0) : labTo N pw e nz (i + 1) = (L, n + 1) :=
  labTo_fill hl hi hz h0 h.len (h.fill.skip fun j hj => by simp at hj)

/-- Within the look at pixel k: the neighbours 'pre' have been; m is the bound that falls. -/
structure LI (N pw : Nat) (e : Bool) (nz : Nat → Bool) (i : Nat) (L0 : List Int) (n k m : Nat) (pre : List Nat) (L : List Int) (q : List Nat) : Prop where
  ld : LD N pw e nz i L0 n L q (fun j => j = k)
  own : px L k = ((n + 1 : Nat) : Int)
  look : ∀ j ∈ pre, nz j = true → px L j ≠ 0
  mu : 2 * zer L + q.length ≤ m

theorem LI.begin {L0 : List Int} {k : Nat} {q : List Nat} (h : LD N pw e nz i L0 n L (q ++ [k]) (fun _ => False)) : LI N pw e nz i L0 n k (2 * zer L + q.length) [] L q where
  ld := ⟨h.len, fun j hj => h.lt j (by simp [hj]), h.fill.skip fun j hj => by
    rcases hj with hj | hj
    · rcases List.mem_append.1 hj with hj | hj
      · exact .inl hj
      · exact .inr (by simpa using hj)
    · exact hj.elim, by have := h.cap; simp at this; omega⟩
  own := (h.lt k (by simp)).2
  look j hj := by simp at hj
  mu := Nat.le_refl _

theorem LI.keep {L0 : List Int} {k m : Nat} {pre q : List Nat} (h : LI N pw e nz i L0 n k m pre L q) {j : Nat} (hj : nz j = true → px L j ≠ 0) : LI N pw e nz i L0 n k m (pre ++ [j]) L q :=
  ⟨h.ld, h.own, fun t ht => by
    rcases List.mem_append.1 ht with ht | ht
    · exact h.look t ht
    · simp at ht; subst ht; exact hj, h.mu⟩

theorem LI.push {L0 : List Int} {k m : Nat} {pre q : List Nat} (h : LI N pw e nz i L0 n k m pre L q) (hl : labTo N pw e nz i = (L0, n)) (hk : k < N) {j : Nat} (hj : j < N) (hkj : nearB pw e k j = true) (hz : nz j = true) (h0 : px L j = 0) :
    LI N pw e nz i L0 n k m (pre ++ [j]) (L.set j ((n + 1 : Nat) : Int)) (q ++ [j]) := by
  have hjL : j < L.length := by rw [h.ld.len]; exact hj
  have hne : k ≠ j := by rintro rfl; have := h.own; omega
  have hs := zer_set L j ((n + 1 : Nat) : Int) hjL h0 (by omega)
  refine ⟨⟨by rw [List.length_set]; exact h.ld.len, fun t ht => ?_, ?_, ?_⟩, ?_, fun t ht hzt => ?_, ?_⟩
  · rcases List.mem_append.1 ht with ht | ht
    · refine ⟨(h.ld.lt t ht).1, ?_⟩
      rw [px_set _ hjL]
      split
      · rfl
      · exact (h.ld.lt t ht).2
    · simp at ht; subst ht
      exact ⟨hj, by rw [px_set _ hjL, if_pos rfl]⟩
  · refine h.ld.fill.step (fun t _ => lab_new hl t) (by omega) hk hj h.own hkj hz h0 _ (fun t ht => by rw [px_set _ hjL, if_neg ht]) (by rw [px_set _ hjL, if_pos rfl]) _ (fun t ht => ?_) (.inl (by simp))
    rcases ht with ht | ht
    · exact .inl (List.mem_append_left _ ht)
    · exact .inr ht
  · have := h.ld.cap; rw [List.length_append, List.length_singleton]; omega
  · rw [px_set _ hjL, if_neg hne]; exact h.own
  · rw [px_set _ hjL]
    split
    · omega
    · rcases List.mem_append.1 ht with ht | ht
      · exact h.look t ht hzt
      · rename_i hjk; simp at ht; exact (hjk ht).elim
  · have := h.mu; rw [List.length_append, List.length_singleton]; omega

theorem LI.finish {L0 : List Int} {ph k m : Nat} {q : List Nat} (h : LI (pw * ph) pw e nz i L0 n k m (nbs pw ph e k) L q) (hk : k < pw * ph) : LD (pw * ph) pw e nz i L0 n L q (fun _ => False) where
  len := h.ld.len
  lt := h.ld.lt
  fill := (Fill.finish (q := fun j => j ∈ q) h.ld.fill fun j hj hkj hz => h.look j (near_nbs hk hj hkj) hz).skip fun j hj => .inl hj
  cap := h.ld.cap

/-- The image of numbers, and how many there are. -/
structure NumR where
  im : ImR
  n : Int
noncomputable def labS (iw ih : Int) (xs : List Int) (e : Bool) : NumR :=
  if vld iw ih xs = true then
    { im := { w := iw, h := ih, px := (labTo (iw.toNat * ih.toNat) iw.toNat e (isNz xs) (iw.toNat * ih.toNat)).1, err := 0 }, n := ((labTo (iw.toNat * ih.toNat) iw.toNat e (isNz xs) (iw.toNat * ih.toNat)).2 : Nat) }
  else { im := noIm 20, n := 0 }

end Go.Proofs.Ytjglfeonoiljlaa
