/- The search for the distances, by lists: the distances so far, the queue, what falls. No program in sight. -/
import Derived.Test.YtjglfeonoiljlaaNear
import Derived.Test.YtjglfeonoiljlaaImgF
namespace Go.Proofs.Ytjglfeonoiljlaa
set_option linter.unusedVariables false
set_option linter.unusedSimpArgs false

theorem px_set {L : List Int} {k : Nat} (v : Int) (hk : k < L.length) (j : Nat) : px (L.set k v) j = if j = k then v else px L j := by
  unfold px
  rw [Int.toNat_natCast, List.getElem?_set]
  by_cases e : k = j
  · subst e; rw [if_pos rfl, if_pos hk, if_pos rfl]; rfl
  · rw [if_neg e, if_neg (fun h => e h.symm)]

/-- The sum of a list of numbers that are not below 0. -/
def sumN : List Int → Nat
  | [] => 0
  | x :: r => x.toNat + sumN r
theorem sumN_set : ∀ (L : List Int) (k : Nat) (v : Int), k < L.length → sumN (L.set k v) + (px L k).toNat = sumN L + v.toNat
  | [], _, _, h => by simp at h
  | x :: r, 0, v, _ => by simp [sumN, px]; omega
  | x :: r, k + 1, v, h => by
    have h2 := sumN_set r k v (by simpa using h)
    have e : px (x :: r) ((k + 1 : Nat) : Int) = px r k := by unfold px; rw [Int.toNat_natCast, Int.toNat_natCast]; rfl
    rw [e]
    simp only [List.set_cons_succ, sumN]
    omega
theorem sumN_le {M : Nat} : ∀ (L : List Int), (∀ x ∈ L, x ≤ (M : Int)) → sumN L ≤ L.length * M
  | [], _ => by simp [sumN]
  | x :: r, h => by
    have h1 := h x (by simp)
    have h2 := sumN_le r (fun y hy => h y (by simp [hy]))
    simp only [sumN, List.length_cons, Nat.add_mul, Nat.one_mul]
    omega

/-- Which pixels have the value 0. -/
def isZ (xs : List Int) (k : Nat) : Bool := decide (px xs k = 0)

/-- Distances L, pixels q that wait, pixels P that are being looked at. -/
structure DS (pw ph : Nat) (z : Nat → Bool) (L : List Int) (q : List Nat) (P : Nat → Prop) : Prop where
  len : L.length = pw * ph
  lt : ∀ k ∈ q, k < pw * ph
  nar : Narrow pw ph z (fun k => px L k) (fun k => k ∈ q ∨ P k)

theorem DS.bd {pw ph : Nat} {z : Nat → Bool} {L : List Int} {q : List Nat} {P : Nat → Prop} (h : DS pw ph z L q P) {k : Nat} (hk : k < pw * ph) : 0 ≤ px L k ∧ px L k ≤ (pw : Int) + ph := by
  have h1 : nearest pw ph z k ≤ px L k := h.nar.sound k hk
  have h2 : px L k ≤ (pw : Int) + ph := h.nar.hi k hk
  have h3 := nearTo_pos pw ph z k (pw * ph)
  unfold nearest at h1
  omega

theorem DS.done {pw ph : Nat} {z : Nat → Bool} {L : List Int} (h : DS pw ph z L [] (fun _ => False)) : L = (List.range (pw * ph)).map (nearest pw ph z) := by
  refine List.ext_getElem (by simp [h.len]) fun i h1 h2 => ?_
  have hi : i < pw * ph := by rw [← h.len]; exact h1
  have e : px L i = nearest pw ph z i := h.nar.end_ (by simp) hi
  simp only [List.getElem_map, List.getElem_range]
  rw [← e]
  simp [px, List.getElem?_eq_getElem h1]

theorem DS.start {pw ph : Nat} {z : Nat → Bool} : DS pw ph z ((List.range (pw * ph)).map fun i => if z i = true then 0 else (pw : Int) + ph) ((List.range (pw * ph)).filter z) (fun _ => False) where
  len := by simp
  lt k hk := by simp at hk; exact hk.1
  nar := Narrow.start _ _ (fun i hi => by simp [px, List.getElem?_range hi]) (fun i hi hz => .inl (by simp [hi, hz]))

/-- Within the look at pixel i, with the distance d: the neighbours 'pre' have been; m is the bound that falls. -/
structure DI (pw ph : Nat) (z : Nat → Bool) (i : Nat) (d : Int) (m : Nat) (pre : List Nat) (L : List Int) (q : List Nat) : Prop where
  ds : DS pw ph z L q (fun k => k = i)
  look : ∀ k ∈ pre, px L k ≤ d + 1
  own : px L i = d
  mu : 2 * sumN L + q.length ≤ m
  cap : sumN L + q.length ≤ 8448

theorem DI.begin {pw ph : Nat} {z : Nat → Bool} {i : Nat} {L : List Int} {q : List Nat} (h : DS pw ph z L (i :: q) (fun _ => False)) (hc : sumN L + (i :: q).length ≤ 8448) : DI pw ph z i (px L i) (2 * sumN L + q.length) [] L q where
  ds := ⟨h.len, fun k hk => h.lt k (by simp [hk]), h.nar.skip fun j hj => by
    rcases hj with hj | hj
    · rcases List.mem_cons.1 hj with hj | hj
      · exact .inr hj
      · exact .inl hj
    · exact hj.elim⟩
  look k hk := by simp at hk
  own := rfl
  mu := Nat.le_refl _
  cap := by simp at hc; omega

theorem DI.keep {pw ph : Nat} {z : Nat → Bool} {i : Nat} {d : Int} {m : Nat} {pre : List Nat} {L : List Int} {q : List Nat} (h : DI pw ph z i d m pre L q) {k : Nat} (hk : px L k ≤ d + 1) : DI pw ph z i d m (pre ++ [k]) L q :=
  ⟨h.ds, fun j hj => by
    rcases List.mem_append.1 hj with hj | hj
    · exact h.look j hj
    · simp at hj; subst hj; exact hk, h.own, h.mu, h.cap⟩

theorem DI.push {pw ph : Nat} {z : Nat → Bool} {i : Nat} {d : Int} {m : Nat} {pre : List Nat} {L : List Int} {q : List Nat} (h : DI pw ph z i d m pre L q) {k : Nat} (hi : i < pw * ph) (hk : k < pw * ph) (hik : l1 pw i k = 1) (hlt : d + 1 < px L k) :
    DI pw ph z i d m (pre ++ [k]) (L.set k (d + 1)) (q ++ [k]) := by
  have hkL : k < L.length := by rw [h.ds.len]; exact hk
  have hne : i ≠ k := by rintro rfl; have := h.own; omega
  have hs := sumN_set L k (d + 1) hkL
  have hb := h.ds.bd hk
  have hd : 0 ≤ d := by have := h.ds.bd hi; rw [h.own] at this; omega
  refine ⟨⟨by rw [List.length_set]; exact h.ds.len, fun j hj => ?_, ?_⟩, fun j hj => ?_, ?_, ?_, ?_⟩
  · rcases List.mem_append.1 hj with hj | hj
    · exact h.ds.lt j hj
    · simp at hj; subst hj; exact hk
  · refine h.ds.nar.step (i := i) hi hk hik (by rw [h.own]; exact hlt) _ (fun j hj => by rw [px_set _ hkL, if_neg hj]) (by rw [px_set _ hkL, if_pos rfl, h.own]) _ (fun j hj => ?_) ?_
    · rcases hj with hj | hj
      · exact .inl (List.mem_append_left _ hj)
      · exact .inr hj
    · exact .inl (by simp)
  · rw [px_set _ hkL]
    split
    · omega
    · rcases List.mem_append.1 hj with hj | hj
      · exact h.look j hj
      · rename_i hjk; simp at hj; exact (hjk hj).elim
  · rw [px_set _ hkL, if_neg hne]; exact h.own
  · have := h.mu; rw [List.length_append, List.length_singleton]; omega
  · have := h.cap; rw [List.length_append, List.length_singleton]; omega

theorem DI.finish {pw ph : Nat} {z : Nat → Bool} {i : Nat} {d : Int} {m : Nat} {L : List Int} {q : List Nat} (h : DI pw ph z i d m (nbs pw ph false i) L q) (hi : i < pw * ph) : DS pw ph z L q (fun _ => False) where
  len := h.ds.len
  lt := h.ds.lt
  nar := (Narrow.finish (i := i) (q := fun k => k ∈ q) h.ds.nar fun k hk hik => by
    have := h.look k (near_nbs hi hk (nearB_four.2 hik))
    rw [h.own]; exact this).skip fun j hj => .inl hj

theorem upto_skip (f : Nat → Int) (N k : Nat) (hf : f k = 0) : upto f N (k + 1) = upto f N k := by
  unfold upto
  refine List.map_congr_left fun i _ => ?_
  by_cases e : i = k
  · subst e; rw [if_pos (by omega), if_neg (by omega), hf]
  · by_cases h : i < k
    · rw [if_pos (by omega), if_pos h]
    · rw [if_neg (by omega), if_neg h]

theorem filter_range_succ (z : Nat → Bool) (k : Nat) : (List.range (k + 1)).filter z = (List.range k).filter z ++ (if z k = true then [k] else []) := by
  rw [List.range_succ, List.filter_append]
  by_cases h : z k = true
  · rw [if_pos h]; simp [h]
  · rw [if_neg h]; simp [h]

/-- The values of the image of distances. -/
def distG (pw ph : Nat) (xs : List Int) (x y : Int) : Int := nearest pw ph (isZ xs) (y.toNat * pw + x.toNat)
theorem distG_at {pw ph : Nat} (xs : List Int) {i : Nat} (hp : 0 < pw) : distG pw ph xs (cX pw i) (cY pw i) = nearest pw ph (isZ xs) i := by
  unfold distG cX cY
  rw [show (((i / pw : Nat) : Int)).toNat * pw + (((i % pw : Nat) : Int)).toNat = i by rw [Int.toNat_natCast, Int.toNat_natCast]; exact idx_split pw i]
theorem distG_img {pw ph : Nat} (xs : List Int) (hp : 0 < pw) (h1 : pw ≤ 16) (h2 : ph ≤ 16) : (List.range (pw * ph)).map (nearest pw ph (isZ xs)) = img pw ph (distG pw ph xs) := by
  rw [← img_plain (fun i hi => by
    rw [distG_at xs hp]
    have a1 := nearTo_pos pw ph (isZ xs) i (pw * ph)
    have a2 := nearTo_hi pw ph (isZ xs) i (pw * ph)
    unfold nearest
    omega)]
  exact List.map_congr_left fun i _ => (distG_at xs hp).symm

def distS (iw ih : Int) (xs : List Int) : ImR := if vld iw ih xs = true then { w := iw, h := ih, px := img iw.toNat ih.toNat (distG iw.toNat ih.toNat xs), err := 0 } else noIm 20

end Go.Proofs.Ytjglfeonoiljlaa
