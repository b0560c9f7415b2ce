/- The features of an image, as a list: pixel by pixel, and by rectangles. Plain: no program in sight. -/
import Derived.Test.YtbfigbpjoaccdaaFeat
import Derived.Test.YtbfigbpjoaccdaaNetB
namespace Go.Proofs.Ytbfigbpjoaccdaa
set_option linter.unusedVariables false
set_option linter.unusedSimpArgs false

theorem getD_range_map (f : Nat → Int) {k n : Nat} (hk : k < n) : ((List.range n).map f)[k]?.getD 0 = f k := by
  rw [List.getElem?_map, List.getElem?_range hk]; rfl
/-- The features behind k pixels. -/
def featsTo (pw cw ch gx : Nat) (v : Nat → Int) (nf k : Nat) : List Int := (List.range nf).map fun c => featTo pw cw ch gx v c k
theorem featsTo_length (pw cw ch gx : Nat) (v : Nat → Int) (nf k : Nat) : (featsTo pw cw ch gx v nf k).length = nf := by simp [featsTo]
theorem featsTo_zero (pw cw ch gx : Nat) (v : Nat → Int) (nf : Nat) : featsTo pw cw ch gx v nf 0 = List.replicate nf 0 := by
  simp only [featsTo, featTo, sumTo]
  rw [List.map_const', List.length_range]
theorem featsTo_at (pw cw ch gx : Nat) (v : Nat → Int) {nf k c : Nat} (hc : c < nf) : (featsTo pw cw ch gx v nf k)[c]?.getD 0 = featTo pw cw ch gx v c k := getD_range_map _ hc
theorem featsTo_succ (pw cw ch gx : Nat) (v : Nat → Int) {nf k : Nat} (hc : cellF pw cw ch gx k < nf) :
    (featsTo pw cw ch gx v nf k).set (cellF pw cw ch gx k) (featTo pw cw ch gx v (cellF pw cw ch gx k) k + v k) = featsTo pw cw ch gx v nf (k + 1) := by
  refine List.ext_getElem (by simp [featsTo]) fun i h1 h2 => ?_
  simp only [List.length_set, featsTo_length] at h1
  rw [List.getElem_set]
  simp only [featsTo, List.getElem_map, List.getElem_range]
  rw [feat_succ]
  by_cases e : cellF pw cw ch gx k = i
  · rw [if_pos e, if_pos e, e]
  · rw [if_neg e, if_neg e, Int.add_zero]
theorem featTo_bd {pw cw ch gx : Nat} {v : Nat → Int} {c : Nat} : ∀ {k : Nat}, (∀ i, i < k → 0 ≤ v i ∧ v i ≤ 255) → 0 ≤ featTo pw cw ch gx v c k ∧ featTo pw cw ch gx v c k ≤ 255 * k
  | 0, _ => by simp [featTo, sumTo]
  | k + 1, h => by
    have ih := featTo_bd (pw := pw) (cw := cw) (ch := ch) (gx := gx) (c := c) (k := k) fun i hi => h i (by omega)
    have h1 := h k (by omega)
    rw [feat_succ]
    split <;> omega

/-- The features of an image for a network. -/
def featL (N : NetN) (xs : List Int) : List Int := featsTo N.w.toNat (N.w.toNat / N.gx.toNat) (N.h.toNat / N.gy.toNat) N.gx.toNat (fun i => xs[i]?.getD 0) N.nf xs.length
/-- The sum of a rectangle, by the cell's number. -/
def cellR (N : NetN) (g : Nat → Nat → Int) (c : Nat) : Int :=
  rect g (c % N.gx.toNat * (N.w.toNat / N.gx.toNat)) (c / N.gx.toNat * (N.h.toNat / N.gy.toNat)) ((c % N.gx.toNat + 1) * (N.w.toNat / N.gx.toNat)) ((c / N.gx.toNat + 1) * (N.h.toNat / N.gy.toNat))
theorem featL_length (N : NetN) (xs : List Int) : (featL N xs).length = N.nf := featsTo_length ..
structure Cells (pw ph cw ch gx gy : Nat) : Prop where
  w0 : 0 < cw
  h0 : 0 < ch
  ex : gx * cw = pw
  ey : gy * ch = ph
theorem NetOk.cells {N : NetN} (h : NetOk N) : Cells N.w.toNat N.h.toNat (N.w.toNat / N.gx.toNat) (N.h.toNat / N.gy.toNat) N.gx.toNat N.gy.toNat := by
  have h1 := h.gx
  have h2 := h.gy
  have h3 := h.w
  have h4 := h.h
  have mx : N.w.toNat % N.gx.toNat = 0 := by
    have := h.mx
    rw [show N.w = (N.w.toNat : Int) by omega, show N.gx = (N.gx.toNat : Int) by omega] at this
    omega
  have my : N.h.toNat % N.gy.toNat = 0 := by
    have := h.my
    rw [show N.h = (N.h.toNat : Int) by omega, show N.gy = (N.gy.toNat : Int) by omega] at this
    omega
  have e1 : N.gx.toNat * (N.w.toNat / N.gx.toNat) = N.w.toNat := Nat.mul_div_cancel' (Nat.dvd_of_mod_eq_zero mx)
  have e2 : N.gy.toNat * (N.h.toNat / N.gy.toNat) = N.h.toNat := Nat.mul_div_cancel' (Nat.dvd_of_mod_eq_zero my)
  refine ⟨?_, ?_, e1, e2⟩
  · refine Nat.pos_of_ne_zero fun e => ?_
    rw [e] at e1
    omega
  · refine Nat.pos_of_ne_zero fun e => ?_
    rw [e] at e2
    omega
theorem NetOk.nfN {N : NetN} (h : NetOk N) : N.nf = N.gx.toNat * N.gy.toNat := by
  have h1 := h.gx
  have h2 := h.gy
  have e : (N.nf : Int) = N.gx * N.gy := h.nf.2.2
  rw [show N.gx = (N.gx.toNat : Int) by omega, show N.gy = (N.gy.toNat : Int) by omega] at e
  exact_mod_cast e
/-- Pixel by pixel, and by rectangles: the same. -/
theorem featL_rect {N : NetN} (h : NetOk N) {xs : List Int} (hx : xs.length = N.h.toNat * N.w.toNat) (g : Nat → Nat → Int) (hg : ∀ x y, x < N.w.toNat → y < N.h.toNat → xs[y * N.w.toNat + x]?.getD 0 = g x y) :
    featL N xs = (List.range N.nf).map (cellR N g) := by
  unfold featL featsTo
  refine List.map_congr_left fun c hc => ?_
  have hc := List.mem_range.1 hc
  have hn := h.nfN
  have hC := h.cells
  have hgx : 0 < N.gx.toNat := by have := h.gx; omega
  have h1 : c % N.gx.toNat < N.gx.toNat := Nat.mod_lt _ hgx
  have h2 : c / N.gx.toNat < N.gy.toNat := Nat.div_lt_of_lt_mul (by omega)
  have e := feat_rect hC.w0 hC.h0 hC.ex hC.ey h1 h2 g (fun i => xs[i]?.getD 0) hg
  rw [show c / N.gx.toNat * N.gx.toNat + c % N.gx.toNat = c by rw [Nat.mul_comm]; exact Nat.div_add_mod c N.gx.toNat] at e
  rw [hx]
  exact e
theorem featL_bd {N : NetN} (h : NetOk N) {xs : List Int} (hx : xs.length ≤ 256) (hv : allIn 0 255 xs = true) (c : Nat) : 0 ≤ (featL N xs)[c]?.getD 0 ∧ (featL N xs)[c]?.getD 0 ≤ 65280 := by
  by_cases hc : c < N.nf
  · unfold featL
    rw [featsTo_at _ _ _ _ _ hc]
    have := featTo_bd (pw := N.w.toNat) (cw := N.w.toNat / N.gx.toNat) (ch := N.h.toNat / N.gy.toNat) (gx := N.gx.toNat) (c := c) (v := fun i => xs[i]?.getD 0) (k := xs.length) fun i hi => allIn_getD hv hi
    omega
  · rw [List.getElem?_eq_none (by rw [featL_length]; omega)]
    show (0 : Int) ≤ 0 ∧ (0 : Int) ≤ 65280
    omega
theorem featL_le {N : NetN} (h : NetOk N) {xs : List Int} (hx : xs.length ≤ 256) (hv : allIn 0 255 xs = true) : LeB 65280 (featL N xs) := fun c => by
  have := featL_bd h hx hv c
  omega

end Go.Proofs.Ytbfigbpjoaccdaa
