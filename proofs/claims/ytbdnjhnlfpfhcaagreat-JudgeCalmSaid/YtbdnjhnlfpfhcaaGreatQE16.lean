/- Contracts and laws (FeatL, Fe, Fr, Ft, Sc, Bo). -/
import Derived.Lib.MinMax
import Derived.Maps.AppendAt
import Derived.Test.YtbdnjhnlfpfhcaaGreatQE15
import Derived.Test.YtbdnjhnlfpfhcaaGreatQE6
import Derived.Test.YtbdnjhnlfpfhcaaGreatQE7
import Derived.Test.YtbdnjhnlfpfhcaaGreatQE5
namespace Go.Proofs.YtbdnjhnlfpfhcaaGreat
set_option linter.unusedVariables false
set_option linter.unusedSimpArgs false

theorem getD_range_map (f : Nat → Int) {k n : Nat} (hk : k < n) : ((List.range n).map f)[k]?.getD 0 = f k := by
  rw [List.getElem?_map, List.getElem?_range hk]; rfl
/-- The features behind k pixels. -/
def featsTo (pw cw ch gx : Nat) (v : Nat → Int) (nf k : Nat) : List Int := (List.range nf).map fun c => featTo pw cw ch gx v c k
theorem featsTo_length (pw cw ch gx : Nat) (v : Nat → Int) (nf k : Nat) : (featsTo pw cw ch gx v nf k).length = nf := by simp [featsTo]
theorem featsTo_zero (pw cw ch gx : Nat) (v : Nat → Int) (nf : Nat) : featsTo pw cw ch gx v nf 0 = List.replicate nf 0 := by
  simp only [featsTo, featTo, sumTo]
  rw [List.map_const', List.length_range]
theorem featsTo_at (pw cw ch gx : Nat) (v : Nat → Int) {nf k c : Nat} (hc : c < nf) : (featsTo pw cw ch gx v nf k)[c]?.getD 0 = featTo pw cw ch gx v c k := getD_range_map _ hc
theorem featsTo_succ (pw cw ch gx : Nat) (v : Nat → Int) {nf k : Nat} (hc : cellF pw cw ch gx k < nf) :
    (featsTo pw cw ch gx v nf k).set (cellF pw cw ch gx k) (featTo pw cw ch gx v (cellF pw cw ch gx k) k + v k) = featsTo pw cw ch gx v nf (k + 1) := by
  refine List.ext_getElem (by simp [featsTo]) fun i h1 h2 => ?_
  simp only [List.length_set, featsTo_length] at h1
  rw [List.getElem_set]
  simp only [featsTo, List.getElem_map, List.getElem_range]
  rw [feat_succ]
  by_cases e : cellF pw cw ch gx k = i
  · rw [if_pos e, if_pos e, e]
  · rw [if_neg e, if_neg e, Int.add_zero]
theorem featTo_bd {pw cw ch gx : Nat} {v : Nat → Int} {c : Nat} : ∀ {k : Nat}, (∀ i, i < k → 0 ≤ v i ∧ v i ≤ 255) → 0 ≤ featTo pw cw ch gx v c k ∧ featTo pw cw ch gx v c k ≤ 255 * k
  | 0, _ => by simp [featTo, sumTo]
  | k + 1, h => by
    have ih := featTo_bd (pw := pw) (cw := cw) (ch := ch) (gx := gx) (c := c) (k := k) fun i hi => h i (by omega)
    have h1 := h k (by omega)
    rw [feat_succ]
    split <;> omega

/-- The features of an image for a network. -/
def featL (N : NetN) (xs : List Int) : List Int := featsTo N.w.toNat (N.w.toNat / N.gx.toNat) (N.h.toNat / N.gy.toNat) N.gx.toNat (fun i => xs[i]?.getD 0) N.nf xs.length
/-- The sum of a rectangle, by the cell's number. -/
def cellR (N : NetN) (g : Nat → Nat → Int) (c : Nat) : Int :=
  rect g (c % N.gx.toNat * (N.w.toNat / N.gx.toNat)) (c / N.gx.toNat * (N.h.toNat / N.gy.toNat)) ((c % N.gx.toNat + 1) * (N.w.toNat / N.gx.toNat)) ((c / N.gx.toNat + 1) * (N.h.toNat / N.gy.toNat))
theorem featL_length (N : NetN) (xs : List Int) : (featL N xs).length = N.nf := featsTo_length ..
structure Cells (pw ph cw ch gx gy : Nat) : Prop where
  w0 : 0 < cw
  h0 : 0 < ch
  ex : gx * cw = pw
  ey : gy * ch = ph
theorem NetOk.cells {N : NetN} (h : NetOk N) : Cells N.w.toNat N.h.toNat (N.w.toNat / N.gx.toNat) (N.h.toNat / N.gy.toNat) N.gx.toNat N.gy.toNat := by
  have h1 := h.gx
  have h2 := h.gy
  have h3 := h.w
  have h4 := h.h
  have mx : N.w.toNat % N.gx.toNat = 0 := by
    have := h.mx
    rw [show N.w = (N.w.toNat : Int) by omega, show N.gx = (N.gx.toNat : Int) by omega] at this
    omega
  have my : N.h.toNat % N.gy.toNat = 0 := by
    have := h.my
    rw [show N.h = (N.h.toNat : Int) by omega, show N.gy = (N.gy.toNat : Int) by omega] at this
    omega
  have e1 : N.gx.toNat * (N.w.toNat / N.gx.toNat) = N.w.toNat := Nat.mul_div_cancel' (Nat.dvd_of_mod_eq_zero mx)
  have e2 : N.gy.toNat * (N.h.toNat / N.gy.toNat) = N.h.toNat := Nat.mul_div_cancel' (Nat.dvd_of_mod_eq_zero my)
  refine ⟨?_, ?_, e1, e2⟩
  · refine Nat.pos_of_ne_zero fun e => ?_
    rw [e] at e1
    omega
  · refine Nat.pos_of_ne_zero fun e => ?_
    rw [e] at e2
    omega
theorem NetOk.nfN {N : NetN} (h : NetOk N) : N.nf = N.gx.toNat * N.gy.toNat := by
  have h1 := h.gx
  have h2 := h.gy
  have e : (N.nf : Int) = N.gx * N.gy := h.nf.2.2
  rw [show N.gx = (N.gx.toNat : Int) by omega, show N.gy = (N.gy.toNat : Int) by omega] at e
  exact_mod_cast e
/-- Pixel by pixel, and by rectangles: the same. -/
theorem featL_rect {N : NetN} (h : NetOk N) {xs : List Int} (hx : xs.length = N.h.toNat * N.w.toNat) (g : Nat → Nat → Int) (hg : ∀ x y, x < N.w.toNat → y < N.h.toNat → xs[y * N.w.toNat + x]?.getD 0 = g x y) :
    featL N xs = (List.range N.nf).map (cellR N g) := by
  unfold featL featsTo
  refine List.map_congr_left fun c hc => ?_
  have hc := List.mem_range.1 hc
  have hn := h.nfN
  have hC := h.cells
  have hgx : 0 < N.gx.toNat := by have := h.gx; omega
  have h1 : c % N.gx.toNat < N.gx.toNat := Nat.mod_lt _ hgx
  have h2 : c / N.gx.toNat < N.gy.toNat := Nat.div_lt_of_lt_mul (by omega)
  have e := feat_rect hC.w0 hC.h0 hC.ex hC.ey h1 h2 g (fun i => xs[i]?.getD 0) hg
  rw [show c / N.gx.toNat * N.gx.toNat + c % N.gx.toNat = c by rw [Nat.mul_comm]; exact Nat.div_add_mod c N.gx.toNat] at e
  rw [hx]
  exact e
theorem featL_bd {N : NetN} (h : NetOk N) {xs : List Int} (hx : xs.length ≤ 256) (hv : allIn 0 255 xs = true) (c : Nat) : 0 ≤ (featL N xs)[c]?.getD 0 ∧ (featL N xs)[c]?.getD 0 ≤ 65280 := by
  by_cases hc : c < N.nf
  · unfold featL
    rw [featsTo_at _ _ _ _ _ hc]
    have := featTo_bd (pw := N.w.toNat) (cw := N.w.toNat / N.gx.toNat) (ch := N.h.toNat / N.gy.toNat) (gx := N.gx.toNat) (c := c) (v := fun i => xs[i]?.getD 0) (k := xs.length) fun i hi => allIn_getD hv hi
    omega
  · rw [List.getElem?_eq_none (by rw [featL_length]; omega)]
    show (0 : Int) ≤ 0 ∧ (0 : Int) ≤ 65280
    omega
theorem featL_le {N : NetN} (h : NetOk N) {xs : List Int} (hx : xs.length ≤ 256) (hv : allIn 0 255 xs = true) : LeB 65280 (featL N xs) := fun c => by
  have := featL_bd h hx hv c
  omega

end Go.Proofs.YtbdnjhnlfpfhcaaGreat

namespace Go.Proofs.YtbdnjhnlfpfhcaaGreat
open Go Go.RowKit Go.Shelf
set_option linter.unusedVariables false
set_option linter.unusedSimpArgs false

theorem own_mono_j {W : World} {base base' : Nat} {e : TypeId} {size : Nat} {v : Value} {n : Nat} {xs : List Value} (h : W.ownsRow base e size v n xs) (hb : base' ≤ base) : W.ownsRow base' e size v n xs := by
  refine ⟨h.1, ?_⟩
  rcases h.2 with h2 | ⟨g, cap, cur, h1, h2, h3⟩
  · exact .inl h2
  · exact .inr ⟨g, cap, cur, h1, Nat.le_trans hb h2, h3⟩
set_option maxRecDepth 100000 in
set_option maxHeartbeats 8000000 in
theorem features_walk (pw ph gx gy cw ch nf l : Nat) (hC : Cells pw ph cw ch gx gy) (hnf : nf = gx * gy) (h1 : 1 ≤ gx) (h2 : gx ≤ 4) (h3 : 1 ≤ gy) (h4 : gy ≤ 4) (p1 : 1 ≤ pw) (p2 : pw ≤ 16) (q1 : 1 ≤ ph) (q2 : ph ≤ 16) (xs : List Int) (hl : xs.length = l) (hlen : l = ph * pw) (hv : allIn 0 255 xs = true)
    (low high : Int) (na pa : Option Addr) (nn nc pc : Nat) (w : World) (hp : Rd w.heap.size w pa xs) :
    Calls Tryz.prog 35 #[.agg #[.int .i64 (pw : Int), .int .i64 (ph : Int), .int .i64 (gx : Int), .int .i64 (gy : Int), .slice na nn nc, .int .i64 low, .int .i64 high], .agg #[.int .i64 (pw : Int), .int .i64 (ph : Int), .slice pa l pc]] w fun e w' => ∃ g, e = .returned (.slice (some ⟨g, 0, none⟩) nf nf) ∧
      w'.ownsRow w.heap.size 3 1 (.slice (some ⟨g, 0, none⟩) nf nf) nf ((featsTo pw cw ch gx (fun i => xs[i]?.getD 0) nf l).map (Value.int .i64)) ∧ Below w.heap.size w w' := by
  obtain ⟨i0, hi, hz0, hz1, hz2⟩ := info_parts jinfo_int
  have hlH := Lib.hid hl
  have hvH := Lib.hid hv
  have hCH := Lib.hid hC
  have hnfH := Lib.hid hnf
  have hl256 : l ≤ 256 := by
    have : ph * pw ≤ 16 * 16 := Nat.mul_le_mul q2 p2
    omega
  have hnf16 : nf ≤ 16 := by
    have : gx * gy ≤ 4 * 4 := Nat.mul_le_mul h2 h4
    omega
  have hlenH := Lib.hid hlen
  have hzH := Lib.hid (jmade_int nf)
  have hgg : (gx : Int) * (gy : Int) = (nf : Int) := by rw [hnf]; simp
  have hcw : (pw : Int).tdiv (gx : Int) = (cw : Int) := by
    rw [← hC.ex, ← Int.ofNat_tdiv, Nat.mul_div_cancel_left _ (by omega)]
  have hch : (ph : Int).tdiv (gy : Int) = (ch : Int) := by
    rw [← hC.ey, ← Int.ofNat_tdiv, Nat.mul_div_cancel_left _ (by omega)]
  have hw0 := hC.w0
  have hh0 := hC.h0
  have hgx0 : ¬ gx = 0 := by omega
  have hgy0 : ¬ gy = 0 := by omega
  have hpw0 : ¬ pw = 0 := by omega
  have hcw0 : ¬ cw = 0 := by omega
  have hch0 : ¬ ch = 0 := by omega
  have hcw16 : cw ≤ 16 := by have := Nat.le_mul_of_pos_left cw (show 0 < gx by omega); have := hC.ex; omega
  have hch16 : ch ≤ 16 := by have := Nat.le_mul_of_pos_left ch (show 0 < gy by omega); have := hC.ey; omega
  clear hl hv hC hnf hlen
  have hbW1 : Below w.heap.size w (w.alloc (.cells #[.int .i64 (pw : Int), .int .i64 (ph : Int), .int .i64 (gx : Int), .int .i64 (gy : Int), .slice na nn nc, .int .i64 low, .int .i64 high] 47)) := jb_al (Below.refl _ w) _
  have kn := Blk.new w 47 #[.int .i64 (pw : Int), .int .i64 (ph : Int), .int .i64 (gx : Int), .int .i64 (gy : Int), .slice na nn nc, .int .i64 low, .int .i64 high]
  obtain ⟨W1, hEW1⟩ : ∃ X, w.alloc (.cells #[.int .i64 (pw : Int), .int .i64 (ph : Int), .int .i64 (gx : Int), .int .i64 (gy : Int), .slice na nn nc, .int .i64 low, .int .i64 high] 47) = X := ⟨_, rfl⟩
  rw [hEW1] at hbW1 kn
  have hbW2 : Below W1.heap.size W1 (W1.alloc (.cells #[.int .i64 (pw : Int), .int .i64 (ph : Int), .slice pa l pc] 51)) := jb_al (Below.refl _ W1) _
  have ki := Blk.new W1 51 #[.int .i64 (pw : Int), .int .i64 (ph : Int), .slice pa l pc]
  obtain ⟨W2, hEW2⟩ : ∃ X, W1.alloc (.cells #[.int .i64 (pw : Int), .int .i64 (ph : Int), .slice pa l pc] 51) = X := ⟨_, rfl⟩
  rw [hEW2] at hbW2 ki
  have kn2 := kn.below hbW2 kn.lt
  have c0 : W2.cell? ⟨w.heap.size, 0, none⟩ = some (.int .i64 (pw : Int)) := kn2.cell (i := 0) rfl
  have c1 : W2.cell? ⟨w.heap.size, 1, none⟩ = some (.int .i64 (ph : Int)) := kn2.cell (i := 1) rfl
  have c2 : W2.cell? ⟨w.heap.size, 2, none⟩ = some (.int .i64 (gx : Int)) := kn2.cell (i := 2) rfl
  have c3 : W2.cell? ⟨w.heap.size, 3, none⟩ = some (.int .i64 (gy : Int)) := kn2.cell (i := 3) rfl
  have d0 : W2.cell? ⟨W1.heap.size, 0, none⟩ = some (.int .i64 (pw : Int)) := ki.cell (i := 0) rfl
  have d1 : W2.cell? ⟨W1.heap.size, 1, none⟩ = some (.int .i64 (ph : Int)) := ki.cell (i := 1) rfl
  have d2 : W2.cell? ⟨W1.heap.size, 2, none⟩ = some (.slice pa l pc) := ki.cell (i := 2) rfl
  have hB2 : Below w.heap.size w W2 := hbW1.trans (hbW2.mono hbW1.size)
  have hs12 : W1.heap.size < W2.heap.size := ki.lt
  have hs01 : w.heap.size < W1.heap.size := kn.lt
  have hpH := Lib.hid ((later_i hp hB2))
  have kn2H := Lib.hid kn2
  have kiH := Lib.hid ki
  clear kn kn2 ki hp hbW1 hbW2
  go_enter Tryz.func35, Tryz.ntmps35
  go_wp2_with (at_make; refine wpList_make_full _ rfl _ _ 49 rfl W2.heap.size 3 i0 (.int .i64 0) 1 Tryz.underlying49 hi hz0 hz1 .i64 .i64 (nf : Int) (nf : Int) nf rfl rfl (by simp) (by simp) (by rw [hz2]; omega) (by unfold maxLen; omega) (by simp) ?_; intro W3 hown hg; have kn3 := kn2H.out.kept hg (by simp); have ki3 := kiH.out.kept hg (by simp); clear c0 c1 c2 c3 d0 d1 d2)
  have c0 : W3.cell? ⟨w.heap.size, 0, none⟩ = some (.int .i64 (pw : Int)) := kn3.cell (i := 0) rfl
  have c1 : W3.cell? ⟨w.heap.size, 1, none⟩ = some (.int .i64 (ph : Int)) := kn3.cell (i := 1) rfl
  have c2 : W3.cell? ⟨w.heap.size, 2, none⟩ = some (.int .i64 (gx : Int)) := kn3.cell (i := 2) rfl
  have c3 : W3.cell? ⟨w.heap.size, 3, none⟩ = some (.int .i64 (gy : Int)) := kn3.cell (i := 3) rfl
  have d0 : W3.cell? ⟨W1.heap.size, 0, none⟩ = some (.int .i64 (pw : Int)) := ki3.cell (i := 0) rfl
  have d1 : W3.cell? ⟨W1.heap.size, 1, none⟩ = some (.int .i64 (ph : Int)) := ki3.cell (i := 1) rfl
  have d2 : W3.cell? ⟨W1.heap.size, 2, none⟩ = some (.slice pa l pc) := ki3.cell (i := 2) rfl
  go_wp2_with fail
  have hS0 : W3.drew.heap = W3.heap := rfl
  refine plain_region (fun W' => W'.heap = W3.heap) 12 12 (by kernel_rfl) rfl ?_
  simp only [Array.replicate_succ, Array.replicate_zero, List.push_toArray, List.nil_append, List.cons_append]
  refine take_op 0 (v := ?fv0) rfl (by kernel_rfl) (fun _ _ _ h => h) (by rfl) hS0 (fun w' hS' => ?fy0) ?fz0
  case fy0 =>
    go_simp
    rfl
  simp only [List.setIfInBounds_toArray, List.set_cons_zero, List.set_cons_succ]
  refine take_op 1 (v := ?fv1) rfl (by kernel_rfl) (fun _ _ _ h => h) (by rfl) hS0 (fun w' hS' => ?fy1) ?fz1
  case fy1 =>
    have e0 := (World.cell?_of_block (w := W3) (w' := w') (a := ⟨w.heap.size, 0, none⟩) (by rw [hS'])).trans c0
    have e1 := (World.cell?_of_block (w := W3) (w' := w') (a := ⟨w.heap.size, 1, none⟩) (by rw [hS'])).trans c1
    have e2 := (World.cell?_of_block (w := W3) (w' := w') (a := ⟨w.heap.size, 2, none⟩) (by rw [hS'])).trans c2
    have e3 := (World.cell?_of_block (w := W3) (w' := w') (a := ⟨w.heap.size, 3, none⟩) (by rw [hS'])).trans c3
    clear hS'
    go_simp
    rfl
  simp only [List.setIfInBounds_toArray, List.set_cons_zero, List.set_cons_succ]
  refine take_op 2 (v := ?fv2) rfl (by kernel_rfl) (fun _ _ _ h => h) (by rfl) hS0 (fun w' hS' => ?fy2) ?fz2
  case fy2 =>
    go_simp
    rfl
  simp only [List.setIfInBounds_toArray, List.set_cons_zero, List.set_cons_succ]
  refine take_op 3 (v := ?fv3) rfl (by kernel_rfl) (fun _ _ _ h => h) (by rfl) hS0 (fun w' hS' => ?fy3) ?fz3
  case fy3 =>
    have e0 := (World.cell?_of_block (w := W3) (w' := w') (a := ⟨w.heap.size, 0, none⟩) (by rw [hS'])).trans c0
    have e1 := (World.cell?_of_block (w := W3) (w' := w') (a := ⟨w.heap.size, 1, none⟩) (by rw [hS'])).trans c1
    have e2 := (World.cell?_of_block (w := W3) (w' := w') (a := ⟨w.heap.size, 2, none⟩) (by rw [hS'])).trans c2
    have e3 := (World.cell?_of_block (w := W3) (w' := w') (a := ⟨w.heap.size, 3, none⟩) (by rw [hS'])).trans c3
    clear hS'
    go_simp
    rfl
  simp only [List.setIfInBounds_toArray, List.set_cons_zero, List.set_cons_succ]
  refine take_op 4 (v := ?fv4) rfl (by kernel_rfl) (fun _ _ _ h => h) (by rfl) hS0 (fun w' hS' => ?fy4) ?fz4
  case fy4 =>
    go_simp
    try go_ints
    rfl
  simp only [List.setIfInBounds_toArray, List.set_cons_zero, List.set_cons_succ]
  refine take_op 5 (v := ?fv5) rfl (by kernel_rfl) (fun _ _ _ h => h) (by rfl) hS0 (fun w' hS' => ?fy5) ?fz5
  case fy5 =>
    go_simp
    rfl
  simp only [List.setIfInBounds_toArray, List.set_cons_zero, List.set_cons_succ]
  refine take_op 6 (v := ?fv6) rfl (by kernel_rfl) (fun _ _ _ h => h) (by rfl) hS0 (fun w' hS' => ?fy6) ?fz6
  case fy6 =>
    have e0 := (World.cell?_of_block (w := W3) (w' := w') (a := ⟨w.heap.size, 0, none⟩) (by rw [hS'])).trans c0
    have e1 := (World.cell?_of_block (w := W3) (w' := w') (a := ⟨w.heap.size, 1, none⟩) (by rw [hS'])).trans c1
    have e2 := (World.cell?_of_block (w := W3) (w' := w') (a := ⟨w.heap.size, 2, none⟩) (by rw [hS'])).trans c2
    have e3 := (World.cell?_of_block (w := W3) (w' := w') (a := ⟨w.heap.size, 3, none⟩) (by rw [hS'])).trans c3
    clear hS'
    go_simp
    rfl
  simp only [List.setIfInBounds_toArray, List.set_cons_zero, List.set_cons_succ]
  refine take_op 7 (v := ?fv7) rfl (by kernel_rfl) (fun _ _ _ h => h) (by rfl) hS0 (fun w' hS' => ?fy7) ?fz7
  case fy7 =>
    go_simp
    rfl
  simp only [List.setIfInBounds_toArray, List.set_cons_zero, List.set_cons_succ]
  refine take_op 8 (v := ?fv8) rfl (by kernel_rfl) (fun _ _ _ h => h) (by rfl) hS0 (fun w' hS' => ?fy8) ?fz8
  case fy8 =>
    have e0 := (World.cell?_of_block (w := W3) (w' := w') (a := ⟨w.heap.size, 0, none⟩) (by rw [hS'])).trans c0
    have e1 := (World.cell?_of_block (w := W3) (w' := w') (a := ⟨w.heap.size, 1, none⟩) (by rw [hS'])).trans c1
    have e2 := (World.cell?_of_block (w := W3) (w' := w') (a := ⟨w.heap.size, 2, none⟩) (by rw [hS'])).trans c2
    have e3 := (World.cell?_of_block (w := W3) (w' := w') (a := ⟨w.heap.size, 3, none⟩) (by rw [hS'])).trans c3
    clear hS'
    go_simp
    rfl
  simp only [List.setIfInBounds_toArray, List.set_cons_zero, List.set_cons_succ]
  refine take_op 9 (v := ?fv9) rfl (by kernel_rfl) (fun _ _ _ h => h) (by rfl) hS0 (fun w' hS' => ?fy9) ?fz9
  case fy9 =>
    go_simp
    try go_ints
    rfl
  simp only [List.setIfInBounds_toArray, List.set_cons_zero, List.set_cons_succ]
  refine take_op 10 (v := ?fv10) rfl (by kernel_rfl) (fun _ _ _ h => h) (by rfl) hS0 (fun w' hS' => ?fy10) ?fz10
  case fy10 =>
    go_simp
    rfl
  simp only [List.setIfInBounds_toArray, List.set_cons_zero, List.set_cons_succ]
  refine take_op 11 (v := ?fv11) rfl (by kernel_rfl) (fun _ _ _ h => h) (by rfl) hS0 (fun w' hS' => ?fy11) ?fz11
  case fy11 =>
    go_simp
    rfl
  simp only [List.setIfInBounds_toArray, List.set_cons_zero, List.set_cons_succ]
  refine done_ops (by kernel_rfl) ?_
  go_wp2_with fail
  have kn4 : Blk W3.drew w.heap.size 47 #[.int .i64 (pw : Int), .int .i64 (ph : Int), .int .i64 (gx : Int), .int .i64 (gy : Int), .slice na nn nc, .int .i64 low, .int .i64 high] := kn3
  have ki4 : Blk W3.drew W1.heap.size 51 #[.int .i64 (pw : Int), .int .i64 (ph : Int), .slice pa l pc] := ki3
  have row4 : W3.drew.ownsRow W2.heap.size 3 1 (.slice (some ⟨W2.heap.size, 0, none⟩) nf nf) nf (madeCells (Value.cells (.int .i64 0)) (nf * 1)).toList := hown
  rw [hzH.out, ← featsTo_zero pw cw ch gx (fun i => xs[i]?.getD 0) nf] at row4
  have hB4 : Below W2.heap.size W2 W3.drew := ((Below.refl _ _).grown hg (Nat.le_refl _) (fun k e => by cases e)).drew
  clear hS0 kn3 ki3 hown hg hzH hEW1 hEW2 c0 c1 c2 c3 d0 d1 d2
  go_loopw [29] (fun i wr => ∃ k : Nat, k ≤ l ∧ i = .int .i64 (k : Int) ∧ wr.ownsRow W2.heap.size 3 1 (.slice (some ⟨W2.heap.size, 0, none⟩) nf nf) nf ((featsTo pw cw ch gx (fun i => xs[i]?.getD 0) nf k).map (Value.int .i64)) ∧ Below W2.heap.size W2 wr) (fun i _ => l - (intOf i).toNat)
  case atStart => exact ⟨0, Nat.zero_le _, rfl, row4, hB4⟩
  case round =>
    clear kn4 ki4 row4 hB4
    obtain ⟨k, hk, rfl, rowk, hb⟩ := hrel
    by_cases hlt : k < l
    case neg =>
      have hkl : k = l := by omega
      subst hkl
      go_wp2_with fail
      go_ret
      exact ⟨_, rfl, own_mono_j rowk hB2.size, hB2.trans (hb.mono hB2.size)⟩
    case pos =>
      have hkl : k < xs.length := by have := hlH.out; omega
      rcases hpH.out with h0 | ⟨b, o, rfl, hb', hc⟩
      · rw [h0] at hkl; simp at hkl
      have hcell := (hb.cell (p := ⟨b, o + k, none⟩) hb').trans (hc k hkl)
      have hvb := allIn_getD hvH.out hkl
      have hcl := cell_lt hCH.out.w0 hCH.out.h0 hCH.out.ex hCH.out.ey (i := k) (by rw [← hlenH.out]; exact hlt)
      rw [← hnfH.out] at hcl
      have hfb := featTo_bd (pw := pw) (cw := cw) (ch := ch) (gx := gx) (c := cellF pw cw ch gx k) (v := fun i => xs[i]?.getD 0) (k := k) (fun i hi => allIn_getD hvH.out (by omega))
      have hnext := featsTo_succ pw cw ch gx (fun i => xs[i]?.getD 0) hcl
      have hat := featsTo_at pw cw ch gx (fun i => xs[i]?.getD 0) (k := k) hcl
      obtain ⟨v, hv⟩ : ∃ v, xs[k]?.getD 0 = v := ⟨_, rfl⟩
      obtain ⟨z, hz⟩ : ∃ z, featTo pw cw ch gx (fun i => xs[i]?.getD 0) (cellF pw cw ch gx k) k = z := ⟨_, rfl⟩
      simp only [hv] at hnext hvb hcell
      rw [hz] at hnext hat hfb
      have hyq : (k : Int).tdiv (pw : Int) = ((k / pw : Nat) : Int) := by rw [← Int.ofNat_tdiv]
      have hxq : (k : Int).tmod (pw : Int) = ((k % pw : Nat) : Int) := by rw [← Int.ofNat_tmod]
      have hYq : ((k / pw : Nat) : Int).tdiv (ch : Int) = ((k / pw / ch : Nat) : Int) := by rw [← Int.ofNat_tdiv]
      have hXq : ((k % pw : Nat) : Int).tdiv (cw : Int) = ((k % pw / cw : Nat) : Int) := by rw [← Int.ofNat_tdiv]
      have hPq : ((k / pw / ch : Nat) : Int) * (gx : Int) = ((k / pw / ch * gx : Nat) : Int) := by simp
      have hce : cellF pw cw ch gx k = k / pw / ch * gx + k % pw / cw := rfl
      rw [hce] at hcl hnext hat
      have hy256 : k / pw ≤ 256 := Nat.le_trans (Nat.div_le_self _ _) (by omega)
      have hY256 : k / pw / ch ≤ 256 := Nat.le_trans (Nat.div_le_self _ _) hy256
      have hx16 : k % pw ≤ 16 := Nat.le_trans (Nat.le_of_lt (Nat.mod_lt _ (by omega))) p2
      obtain ⟨y, hye⟩ : ∃ y, k / pw = y := ⟨_, rfl⟩
      obtain ⟨x, hxe⟩ : ∃ x, k % pw = x := ⟨_, rfl⟩
      rw [hye] at hyq hYq hPq hcl hnext hat hy256 hY256
      rw [hxe] at hxq hXq hcl hnext hat hx16
      obtain ⟨Y, hYe⟩ : ∃ Y, y / ch = Y := ⟨_, rfl⟩
      obtain ⟨X, hXe⟩ : ∃ X, x / cw = X := ⟨_, rfl⟩
      rw [hYe] at hYq hPq hcl hnext hat hY256
      rw [hXe] at hXq hcl hnext hat
      obtain ⟨p, hpe⟩ : ∃ p, Y * gx = p := ⟨_, rfl⟩
      rw [hpe] at hPq hcl hnext hat
      have hcz := rowk.cellAt (p + X) (by rw [Nat.mul_one]; exact hcl)
      rw [List.getElem?_map, List.getElem?_eq_getElem (by rw [featsTo_length]; exact hcl)] at hcz
      rw [List.getElem?_eq_getElem (by rw [featsTo_length]; exact hcl)] at hat
      simp only [Option.getD_some] at hat
      simp only [Option.map_some, hat] at hcz
      change wr.cell? ⟨W2.heap.size, p + X, none⟩ = some (.int .i64 z) at hcz
      have hst := (rowk.stored (p + X) (.int .i64 (z + v))).1
      simp only [map_set_i] at hst
      rw [hnext] at hst
      have hfr := rowk.frozenAt (p + X)
      have knr := kn2H.out.below hb (by omega)
      have kir := kiH.out.below hb hs12
      have d0 : wr.cell? ⟨W1.heap.size, 0, none⟩ = some (.int .i64 (pw : Int)) := kir.cell (i := 0) rfl
      have c2 : wr.cell? ⟨w.heap.size, 2, none⟩ = some (.int .i64 (gx : Int)) := knr.cell (i := 2) rfl
      have hS0 : wr.drew.heap = wr.heap := rfl
      have hstH := Lib.hid hst
      clear hst hnext hat hv hz hye hxe hYe hXe hpe hc knr kir hce hkl rowk
      obtain ⟨v1, v2⟩ := hvb
      obtain ⟨z1, z2⟩ := hfb
      have z3 : z ≤ 65280 := by omega
      clear z2
      go_wp2_with fail
      refine plain_region (fun W' => W'.heap = wr.heap) 22 23 (by kernel_rfl) rfl ?_
      simp only [Array.replicate_succ, Array.replicate_zero, List.push_toArray, List.nil_append, List.cons_append]
      refine take_op 0 (v := ?gv0) rfl (by kernel_rfl) (fun _ _ _ h => h) (by rfl) hS0 (fun w' hS' => ?gy0) ?gz0
      case gy0 =>
        go_simp
        rfl
      simp only [List.setIfInBounds_toArray, List.set_cons_zero, List.set_cons_succ]
      refine take_op 1 (v := ?gv1) rfl (by kernel_rfl) (fun _ _ _ h => h) (by rfl) hS0 (fun w' hS' => ?gy1) ?gz1
      case gy1 =>
        go_simp
        rfl
      simp only [List.setIfInBounds_toArray, List.set_cons_zero, List.set_cons_succ]
      refine take_op 2 (v := ?gv2) rfl (by kernel_rfl) (fun _ _ _ h => h) (by rfl) hS0 (fun w' hS' => ?gy2) ?gz2
      case gy2 =>
        go_simp
        rfl
      simp only [List.setIfInBounds_toArray, List.set_cons_zero, List.set_cons_succ]
      refine take_op 3 (v := ?gv3) rfl (by kernel_rfl) (fun _ _ _ h => h) (by rfl) hS0 (fun w' hS' => ?gy3) ?gz3
      case gy3 =>
        have e0 := (World.cell?_of_block (w := wr) (w' := w') (a := ⟨W1.heap.size, 0, none⟩) (by rw [hS'])).trans d0
        have e1 := (World.cell?_of_block (w := wr) (w' := w') (a := ⟨w.heap.size, 2, none⟩) (by rw [hS'])).trans c2
        have e2 := (World.cell?_of_block (w := wr) (w' := w') (a := ⟨W2.heap.size, p + X, none⟩) (by rw [hS'])).trans hcz
        clear hS'
        go_simp
        rfl
      simp only [List.setIfInBounds_toArray, List.set_cons_zero, List.set_cons_succ]
      refine take_op 4 (v := ?gv4) rfl (by kernel_rfl) (fun _ _ _ h => h) (by rfl) hS0 (fun w' hS' => ?gy4) ?gz4
      case gy4 =>
        go_simp
        try go_ints
        rfl
      simp only [List.setIfInBounds_toArray, List.set_cons_zero, List.set_cons_succ]
      refine take_op 5 (v := ?gv5) rfl (by kernel_rfl) (fun _ _ _ h => h) (by rfl) hS0 (fun w' hS' => ?gy5) ?gz5
      case gy5 =>
        go_simp
        rfl
      simp only [List.setIfInBounds_toArray, List.set_cons_zero, List.set_cons_succ]
      refine take_op 6 (v := ?gv6) rfl (by kernel_rfl) (fun _ _ _ h => h) (by rfl) hS0 (fun w' hS' => ?gy6) ?gz6
      case gy6 =>
        go_simp
        try go_ints
        rfl
      simp only [List.setIfInBounds_toArray, List.set_cons_zero, List.set_cons_succ]
      refine take_op 7 (v := ?gv7) rfl (by kernel_rfl) (fun _ _ _ h => h) (by rfl) hS0 (fun w' hS' => ?gy7) ?gz7
      case gy7 =>
        go_simp
        rfl
      simp only [List.setIfInBounds_toArray, List.set_cons_zero, List.set_cons_succ]
      refine take_op 8 (v := ?gv8) rfl (by kernel_rfl) (fun _ _ _ h => h) (by rfl) hS0 (fun w' hS' => ?gy8) ?gz8
      case gy8 =>
        have e0 := (World.cell?_of_block (w := wr) (w' := w') (a := ⟨W1.heap.size, 0, none⟩) (by rw [hS'])).trans d0
        have e1 := (World.cell?_of_block (w := wr) (w' := w') (a := ⟨w.heap.size, 2, none⟩) (by rw [hS'])).trans c2
        have e2 := (World.cell?_of_block (w := wr) (w' := w') (a := ⟨W2.heap.size, p + X, none⟩) (by rw [hS'])).trans hcz
        clear hS'
        go_simp
        rfl
      simp only [List.setIfInBounds_toArray, List.set_cons_zero, List.set_cons_succ]
      refine take_op 9 (v := ?gv9) rfl (by kernel_rfl) (fun _ _ _ h => h) (by rfl) hS0 (fun w' hS' => ?gy9) ?gz9
      case gy9 =>
        go_simp
        try go_ints
        rfl
      simp only [List.setIfInBounds_toArray, List.set_cons_zero, List.set_cons_succ]
      refine take_op 10 (v := ?gv10) rfl (by kernel_rfl) (fun _ _ _ h => h) (by rfl) hS0 (fun w' hS' => ?gy10) ?gz10
      case gy10 =>
        go_simp
        rfl
      simp only [List.setIfInBounds_toArray, List.set_cons_zero, List.set_cons_succ]
      refine take_op 11 (v := ?gv11) rfl (by kernel_rfl) (fun _ _ _ h => h) (by rfl) hS0 (fun w' hS' => ?gy11) ?gz11
      case gy11 =>
        go_simp
        rfl
      simp only [List.setIfInBounds_toArray, List.set_cons_zero, List.set_cons_succ]
      refine take_op 12 (v := ?gv12) rfl (by kernel_rfl) (fun _ _ _ h => h) (by rfl) hS0 (fun w' hS' => ?gy12) ?gz12
      case gy12 =>
        have e0 := (World.cell?_of_block (w := wr) (w' := w') (a := ⟨W1.heap.size, 0, none⟩) (by rw [hS'])).trans d0
        have e1 := (World.cell?_of_block (w := wr) (w' := w') (a := ⟨w.heap.size, 2, none⟩) (by rw [hS'])).trans c2
        have e2 := (World.cell?_of_block (w := wr) (w' := w') (a := ⟨W2.heap.size, p + X, none⟩) (by rw [hS'])).trans hcz
        clear hS'
        go_simp
        rfl
      simp only [List.setIfInBounds_toArray, List.set_cons_zero, List.set_cons_succ]
      refine take_op 13 (v := ?gv13) rfl (by kernel_rfl) (fun _ _ _ h => h) (by rfl) hS0 (fun w' hS' => ?gy13) ?gz13
      case gy13 =>
        go_simp
        try go_ints
        rfl
      simp only [List.setIfInBounds_toArray, List.set_cons_zero, List.set_cons_succ]
      refine take_op 14 (v := ?gv14) rfl (by kernel_rfl) (fun _ _ _ h => h) (by rfl) hS0 (fun w' hS' => ?gy14) ?gz14
      case gy14 =>
        go_simp
        rfl
      simp only [List.setIfInBounds_toArray, List.set_cons_zero, List.set_cons_succ]
      refine take_op 15 (v := ?gv15) rfl (by kernel_rfl) (fun _ _ _ h => h) (by rfl) hS0 (fun w' hS' => ?gy15) ?gz15
      case gy15 =>
        go_simp
        try go_ints
        rfl
      simp only [List.setIfInBounds_toArray, List.set_cons_zero, List.set_cons_succ]
      refine take_op 16 (v := ?gv16) rfl (by kernel_rfl) (fun _ _ _ h => h) (by rfl) hS0 (fun w' hS' => ?gy16) ?gz16
      case gy16 =>
        go_simp
        try go_ints
        rfl
      simp only [List.setIfInBounds_toArray, List.set_cons_zero, List.set_cons_succ]
      refine take_op 17 (v := ?gv17) rfl (by kernel_rfl) (fun _ _ _ h => h) (by rfl) hS0 (fun w' hS' => ?gy17) ?gz17
      case gy17 =>
        go_simp
        try go_ints
        first
        | rfl
        | (rw [if_pos (by omega)]; done)
        | rw [if_pos ⟨by omega, by omega⟩]
      simp only [List.setIfInBounds_toArray, List.set_cons_zero, List.set_cons_succ]
      refine take_op 18 (v := ?gv18) rfl (by kernel_rfl) (fun _ _ _ h => h) (by rfl) hS0 (fun w' hS' => ?gy18) ?gz18
      case gy18 =>
        have e0 := (World.cell?_of_block (w := wr) (w' := w') (a := ⟨W1.heap.size, 0, none⟩) (by rw [hS'])).trans d0
        have e1 := (World.cell?_of_block (w := wr) (w' := w') (a := ⟨w.heap.size, 2, none⟩) (by rw [hS'])).trans c2
        have e2 := (World.cell?_of_block (w := wr) (w' := w') (a := ⟨W2.heap.size, p + X, none⟩) (by rw [hS'])).trans hcz
        clear hS'
        go_simp
        rfl
      simp only [List.setIfInBounds_toArray, List.set_cons_zero, List.set_cons_succ]
      refine take_op 19 (v := ?gv19) rfl (by kernel_rfl) (fun _ _ _ h => h) (by rfl) hS0 (fun w' hS' => ?gy19) ?gz19
      case gy19 =>
        go_simp
        rfl
      simp only [List.setIfInBounds_toArray, List.set_cons_zero, List.set_cons_succ]
      refine take_op 20 (v := ?gv20) rfl (by kernel_rfl) (fun _ _ _ h => h) (by rfl) hS0 (fun w' hS' => ?gy20) ?gz20
      case gy20 =>
        go_simp
        try go_ints
        rfl
      simp only [List.setIfInBounds_toArray, List.set_cons_zero, List.set_cons_succ]
      refine take_op 21 (v := ?gv21) rfl (by kernel_rfl) (fun _ _ _ h => h) (by rfl) hS0 (fun w' hS' => ?gy21) ?gz21
      case gy21 =>
        go_simp
        try go_ints
        first
        | rfl
        | (rw [if_pos (by omega)]; done)
        | rw [if_pos ⟨by omega, by omega⟩]
      simp only [List.setIfInBounds_toArray, List.set_cons_zero, List.set_cons_succ]
      refine step_op 22 (by kernel_rfl) rfl (fun K hK => ?_)
      have hfr2 : wr.drew.frozen? ⟨W2.heap.size, p + X, none⟩ = false := hfr
      have hcs2 : wr.drew.cell? ⟨W2.heap.size, p + X, none⟩ = some (.int .i64 z) := hcz
      rw [if_pos (by rfl)]
      go_simp
      refine hK.out _ _ (fun h => absurd h (by omega)) ?_
      clear hK K
      try simp only [Act.put, List.setIfInBounds_toArray, List.set_cons_zero, List.set_cons_succ]
      refine done_ops (by kernel_rfl) ?_
      go_wp2_with fail
      go_roundw
      case rel => exact ⟨k + 1, by omega, by go_num, hstH.out, (hb.drew).setCell (p := ⟨W2.heap.size, p + X, none⟩) (Nat.le_refl _) _⟩
      case measure => simp [intOf]; omega

end Go.Proofs.YtbdnjhnlfpfhcaaGreat

namespace Go.Proofs.YtbdnjhnlfpfhcaaGreat
open Go Go.RowKit Go.Shelf
set_option linter.unusedVariables false
set_option linter.unusedSimpArgs false

/-- The sum of a cell's rectangle, by the cell's number. -/
def cellS (gx cw ch : Nat) (g : Nat → Nat → Int) (c : Nat) : Int := rect g (c % gx * cw) (c / gx * ch) ((c % gx + 1) * cw) ((c / gx + 1) * ch)
set_option maxRecDepth 100000 in
set_option maxHeartbeats 2000000 in
/-- The letters of a valid network and an image of its size. -/
theorem net_letters {N : NetN} (h : NetOk N) {m : ImN} (hw : m.w = N.w) (hh : m.h = N.h) (hc : camB m = true) :
    ∃ pw ph gx gy cw ch : Nat, N.w = (pw : Int) ∧ N.h = (ph : Int) ∧ N.gx = (gx : Int) ∧ N.gy = (gy : Int) ∧ Cells pw ph cw ch gx gy ∧ N.nf = gx * gy ∧ (1 ≤ gx ∧ gx ≤ 4) ∧ (1 ≤ gy ∧ gy ≤ 4) ∧ (1 ≤ pw ∧ pw ≤ 16) ∧ (1 ≤ ph ∧ ph ≤ 16) ∧
      m.px.length = ph * pw ∧ allIn 0 255 m.px = true ∧ allIn (-2147483648) 2147483648 m.px = true ∧ featL N m.px = featsTo pw cw ch gx (fun i => m.px[i]?.getD 0) N.nf m.px.length ∧ featL N m.px = (List.range N.nf).map (cellS gx cw ch (gpx pw m.px)) := by
  have h1 := h.gx
  have h2 := h.gy
  have h3 := h.w
  have h4 := h.h
  simp only [camB, Bool.and_eq_true] at hc
  obtain ⟨_, _, v3, v4⟩ := vld_true hc.1
  have hlen : m.px.length = N.h.toNat * N.w.toNat := by
    rw [hw, hh, show N.w = (N.w.toNat : Int) by omega, show N.h = (N.h.toNat : Int) by omega, Int.mul_comm] at v3
    exact_mod_cast v3
  refine ⟨N.w.toNat, N.h.toNat, N.gx.toNat, N.gy.toNat, _, _, by omega, by omega, by omega, by omega, h.cells, h.nfN, by omega, by omega, by omega, by omega, hlen, hc.2, v4, rfl, ?_⟩
  refine (featL_rect h hlen (gpx N.w.toNat m.px) fun x y hx hy => ?_).trans rfl
  unfold gpx px
  congr 2
theorem features_any (N : NetN) (hN : NetOk N) (na : Option Addr) (nn nc : Nat) (m : ImN) (hw : m.w = N.w) (hh : m.h = N.h) (hc : camB m = true) (pa : Option Addr) (l pc : Nat) (hl : m.px.length = l) (w : World) (hp : Rd w.heap.size w pa m.px) :
    Calls Tryz.prog 35 #[netv N na nn nc, imv m.w m.h pa l pc] w fun e w' => ∃ s sc, e = .returned (.slice s N.nf sc) ∧
      w'.ownsRow w.heap.size 3 1 (.slice s N.nf sc) N.nf ((featL N m.px).map (Value.int .i64)) ∧ Below w.heap.size w w' := by
  obtain ⟨pw, ph, gx, gy, cw, ch, e1, e2, e3, e4, hC, hnf, g1, g2, g3, g4, hlen, hv, _, hf, _⟩ := net_letters hN hw hh hc
  obtain ⟨W, H, GX, GY, Ls, low, high⟩ := N
  obtain ⟨iw, ih, xs⟩ := m
  simp only at e1 e2 e3 e4 hw hh hlen hv hl hp
  subst e1 e2 e3 e4 hw hh
  rw [hf]
  simp only at hf ⊢
  refine (features_walk pw ph gx gy cw ch (NetN.nf ⟨(pw : Int), (ph : Int), (gx : Int), (gy : Int), Ls, low, high⟩) l hC hnf g1.1 g1.2 g2.1 g2.2 g3.1 g3.2 g4.1 g4.2 xs hl (by rw [← hl, hlen]) hv low high na pa nn nc pc w hp).mono fun e w' ⟨g, h1, h2, h3⟩ => ⟨_, _, h1, ?_, h3⟩
  rw [hl]
  exact h2
end Go.Proofs.YtbdnjhnlfpfhcaaGreat

namespace Go.Proofs.YtbdnjhnlfpfhcaaGreat
open Go Go.RowKit Go.Shelf
set_option linter.unusedVariables false
set_option linter.unusedSimpArgs false

theorem imAt_one (m : ImN) : imAt [m] 0 = m := rfl
theorem imAt_len {ms : List ImN} (h : ∀ m ∈ ms, m.px.length ≤ 9223372036854775807) (i : Nat) : (imAt ms i).px.length ≤ 9223372036854775807 := by
  unfold imAt
  cases e : ms[i]? with
  | none => simp
  | some m => exact h m (List.mem_of_getElem? e)
/-- A slice of one image in a block of its own. -/
theorem rdis_one {W : World} {b : Nat} {m : ImN} {pa : Option Addr} {l pc : Nat} (hl : m.px.length = l) (h : Blk W b 51 #[.int .i64 m.w, .int .i64 m.h, .slice pa l pc]) (hp : Rd W.heap.size W pa m.px) : RdIs W.heap.size W (some ⟨b, 0, none⟩) [m] :=
  .inr ⟨b, 0, rfl, h.lt, fun i hi => by
    have : i = 0 := by simp at hi; exact hi
    subst this
    exact ⟨pa, pc, h.cell (i := 0) rfl, h.cell (i := 1) rfl, by rw [imAt_one, hl]; exact h.cell (i := 2) rfl, hp⟩⟩
theorem chkF_zero {N : NetN} {m : ImN} (h : chkF N [m] = 0) : NetOk N ∧ m.w = N.w ∧ m.h = N.h ∧ camB m = true := by
  unfold chkF at h
  cases h1 : netOk N with
  | false => rw [h1] at h; simp at h
  | true =>
    cases h2 : camsB [m] with
    | false => rw [h1, h2] at h; simp at h
    | true =>
      cases h3 : fitsB N [m] with
      | false => rw [h1, h2, h3] at h; simp at h
      | true =>
        have h3' := of_decide_eq_true (allTo_at h3 (k := 0) (by simp))
        exact ⟨netOk_of h1, h3'.1, h3'.2, allTo_at h2 (k := 0) (by simp)⟩
end Go.Proofs.YtbdnjhnlfpfhcaaGreat

namespace Go.Proofs.YtbdnjhnlfpfhcaaGreat
open Go Go.RowKit Go.Shelf
set_option linter.unusedVariables false
set_option linter.unusedSimpArgs false

set_option maxRecDepth 100000 in
set_option maxHeartbeats 2000000 in
theorem plus_num (a w x : Int) (h1 : -9223372036854775808 ≤ w * x) (h2 : w * x ≤ 9223372036854775807) (h3 : -9223372036854775808 ≤ a + w * x) (h4 : a + w * x ≤ 9223372036854775807) (W : World) :
    Calls Tryz.prog 142 #[.int .i64 a, .int .i64 w, .int .i64 x] W fun e w' => e = .returned (.int .i64 (a + w * x)) ∧ W = w' := by
  go_enter Tryz.func142, Tryz.ntmps142
  go_wp2
  go_ret
  exact ⟨rfl, rfl⟩
set_option maxRecDepth 100000 in
set_option maxHeartbeats 2000000 in
theorem cut_num (a : Int) (W : World) :
    Calls Tryz.prog 141 #[.int .i64 a] W fun e w' => e = .returned (.int .i64 (cutI true a)) ∧ W = w' := by
  obtain ⟨m, hm⟩ : ∃ m, max a 0 = m := ⟨_, rfl⟩
  have hc : cutI true a = m := hm
  have hcH := Lib.hid hc
  clear hc
  go_enter Tryz.func141, Tryz.ntmps141
  go_wp2
  go_ret
  exact ⟨ret_int hcH.out.symm, rfl⟩
set_option maxRecDepth 100000 in
set_option maxHeartbeats 2000000 in
theorem bias_num (a : Int) (W : World) :
    Calls Tryz.prog 37 #[.int .i64 a] W fun e w' => e = .returned (.int .i64 a) ∧ W = w' := by
  go_enter Tryz.func37, Tryz.ntmps37
  go_wp2
  go_ret
  exact ⟨rfl, rfl⟩

theorem plus_num_at (z : Int) (w : World) : (method 314 83 (.int .i64 z) "sightbench/judge.plus").run Tryz.prog w = .ok (142, .int .i64 z) w := by kernel_rfl
theorem cut_num_at (z : Int) (w : World) : (method 314 83 (.int .i64 z) "sightbench/judge.cut").run Tryz.prog w = .ok (141, .int .i64 z) w := by kernel_rfl

/-- What a row of integers holds can be read, whatever its type's number. -/
theorem rowU_rd {W : World} {base : Nat} {e : TypeId} {a : Option Addr} {c n : Nat} {xs : List Int} (hn : xs.length = n) (h : W.ownsRow base e 1 (.slice a n c) n (xs.map (Value.int .i64))) : Rd W.heap.size W a xs := by
  subst hn
  rcases h.2 with ⟨h1, h2⟩ | ⟨g, cap, cur, h1, _, hg, _⟩
  · exact .inl (List.eq_nil_of_length_eq_zero h2)
  · simp only [Value.slice.injEq, true_and] at h1
    obtain ⟨rfl, rfl⟩ := h1
    refine .inr ⟨g, 0, rfl, (Array.getElem?_eq_some_iff.1 hg).1, fun i hi => ?_⟩
    have := h.cellAt i (by omega)
    rw [Nat.zero_add, this]
    simp [hi]
theorem jinfo_num : (Tryz.prog.info? 83).map (fun i => (i.zero, i.size, i.bytes)) = some (some (.int .i64 0), 1, 8) := by kernel_rfl

set_option maxRecDepth 100000 in
set_option maxHeartbeats 8000000 in
theorem score_num (N : NetN) (hN : NetOk N) (na : Option Addr) (nn nc : Nat) (hnn : N.Ls.length = nn) (x : List Int) (hx : x.length = N.nf) (hxb : LeB 65280 x) (la : Option Addr) (lc : Nat) (w : World) (hrn : RdLs w.heap.size w na N.Ls) (hrl : Rd w.heap.size w la x) :
    Calls Tryz.prog 36 #[netv N na nn nc, .slice la N.nf lc, .func (.func 37) #[] #[]] w fun e w' => e = .returned (.int .i64 (scoreN N.Ls x)) ∧ Below w.heap.size w w' := by
  obtain ⟨i0, hi, hz0, hz1, hz2⟩ := info_parts jinfo_num
  have hpm := plus_num_at
  have hcm := cut_num_at
  have hNH := Lib.hid hN
  have hnnH := Lib.hid hnn
  have hxH := Lib.hid hx
  have hbdH := Lib.hid (fun i => numAt_bd hN hx hxb i)
  have hn3 : nn ≤ 3 := by rw [← hnn]; exact hN.l3
  have hn1 : 1 ≤ nn := by rw [← hnn]; exact hN.l1
  clear hN hnn hx hxb
  have hbW1 : Below w.heap.size w (w.alloc (.cells #[.int .i64 N.w, .int .i64 N.h, .int .i64 N.gx, .int .i64 N.gy, .slice na nn nc, .int .i64 N.low, .int .i64 N.high] 47)) := jb_al (Below.refl _ w) _
  have kn := Blk.new w 47 #[.int .i64 N.w, .int .i64 N.h, .int .i64 N.gx, .int .i64 N.gy, .slice na nn nc, .int .i64 N.low, .int .i64 N.high]
  obtain ⟨W1, hEW1⟩ : ∃ X, w.alloc (.cells #[.int .i64 N.w, .int .i64 N.h, .int .i64 N.gx, .int .i64 N.gy, .slice na nn nc, .int .i64 N.low, .int .i64 N.high] 47) = X := ⟨_, rfl⟩
  rw [hEW1] at hbW1 kn
  have c4 : W1.cell? ⟨w.heap.size, 4, none⟩ = some (.slice na nn nc) := kn.cell (i := 4) rfl
  have knH := Lib.hid kn
  have hrnH := Lib.hid (later_l hrn hbW1)
  have hrlH := Lib.hid (later_i hrl hbW1)
  clear kn hrn hrl
  go_enter Tryz.func36, Tryz.ntmps36
  go_wp2_with fail
  clear hEW1 c4
  go_loopw [1, 18] (fun v i wr => ∃ (k : Nat) (a : Option Addr) (c : Nat), k ≤ nn ∧ i = .int .i64 (k : Int) ∧ v = .slice a (widthN N.nf N.Ls k) c ∧ Hid (Rd wr.heap.size wr a (numAt N.Ls x k)) ∧ Below W1.heap.size W1 wr) (fun _ i _ => nn - (intOf i).toNat)
  case atStart => exact ⟨0, la, lc, Nat.zero_le _, rfl, rfl, hrlH, Below.refl _ _⟩
  case round =>
    obtain ⟨k, a, c, hk, rfl, rfl, hra, hb⟩ := hrel
    obtain ⟨wo, hwo⟩ : ∃ X : World, X = wr := ⟨_, rfl⟩
    subst hwo
    have hB := hbW1.trans (hb.mono hbW1.size)
    by_cases hlt : k < nn
    case neg =>
      have hkn : k = nn := by omega
      subst hkn
      have hone : widthN N.nf N.Ls k = 1 := by rw [← hnnH.out]; exact hNH.out.one
      have hsc := scoreN_at N.Ls x
      rw [hnnH.out] at hsc
      have hlen : (numAt N.Ls x k).length = 1 := by rw [numAt_len, hxH.out, hone]
      rcases hra.out with h0 | ⟨ab, ao, rfl, hab, hac⟩
      · rw [h0] at hlen; simp at hlen
      have hcl := hac 0 (by omega)
      rw [Nat.add_zero] at hcl
      rw [← hsc] at hcl
      obtain ⟨z, hz⟩ : ∃ z, scoreN N.Ls x = z := ⟨_, rfl⟩
      rw [hz] at hcl
      rw [hone]
      have hzH := Lib.hid hz
      clear hz hsc hlen hac hra
      go_wp2_with fail
      go_ret
      exact ⟨ret_int hzH.out.symm, hB⟩
    case pos =>
      have hkl : k < N.Ls.length := by have := hnnH.out; omega
      obtain ⟨nb, no, rfl, hnb, wa, wc, ba, bc, hc1, hc2, hws, hbs⟩ := (later_l hrnH.out hb).at hkl
      have hLok := hNH.out.ly k hkl
      have hlb := hbdH.out k (by omega)
      have hlw := width_le hNH.out (show k ≤ N.Ls.length by omega)
      have hlen : (numAt N.Ls x k).length = widthN N.nf N.Ls k := by rw [numAt_len, hxH.out]
      obtain ⟨L, hL⟩ : ∃ L, layAt N.Ls k = L := ⟨_, rfl⟩
      obtain ⟨B, hBe⟩ : ∃ B, widthN N.nf N.Ls k = B := ⟨_, rfl⟩
      obtain ⟨l, hle⟩ : ∃ l, numAt N.Ls x k = l := ⟨_, rfl⟩
      rw [hL] at hc1 hc2 hws hbs hLok
      rw [hBe] at hLok hlw hlen ⊢
      rw [hle] at hlb hlen hra
      obtain ⟨wl, hwl⟩ : ∃ y, L.ws.length = y := ⟨_, rfl⟩
      obtain ⟨bl, hbl⟩ : ∃ y, L.bs.length = y := ⟨_, rfl⟩
      rw [hwl] at hc1
      rw [hbl] at hc2
      have hwb : wl = bl := by rw [← hwl, ← hbl]; exact hLok.ws
      have hb1 : 1 ≤ bl := by rw [← hbl]; exact hLok.b1
      have hb8 : bl ≤ 8 := by rw [← hbl]; exact hLok.b8
      subst hwb
      have hLH := Lib.hid hL
      have hBH := Lib.hid hBe
      have hleH := Lib.hid hle
      have hwlH := Lib.hid hwl
      have hblH := Lib.hid hbl
      have hLokH := Lib.hid hLok
      have hlbH := Lib.hid hlb
      have hlenH := Lib.hid hlen
      clear hL hBe hle hwl hbl hLok hlb hlen
      have hbW2 : Below wo.heap.size wo (wo.alloc (.cells #[.slice wa wl wc, .slice ba wl bc] 91)) := jb_al (Below.refl _ wo) _
      have kl := Blk.new wo 91 #[.slice wa wl wc, .slice ba wl bc]
      obtain ⟨W2, hEW2⟩ : ∃ X, wo.alloc (.cells #[.slice wa wl wc, .slice ba wl bc] 91) = X := ⟨_, rfl⟩
      rw [hEW2] at hbW2 kl
      have m0 : W2.cell? ⟨wo.heap.size, 0, none⟩ = some (.slice wa wl wc) := kl.cell (i := 0) rfl
      have m1 : W2.cell? ⟨wo.heap.size, 1, none⟩ = some (.slice ba wl bc) := kl.cell (i := 1) rfl
      have hwsH := Lib.hid (later_w hws hbW2)
      have hbsH := Lib.hid (later_i hbs hbW2)
      have hraH := Lib.hid (later_i hra.out hbW2)
      have klH := Lib.hid kl
      have hb2 := hb.trans (hbW2.mono hb.size)
      have kn2H := Lib.hid (knH.out.below hb2 knH.out.lt)
      have hls : wo.heap.size < W2.heap.size := kl.lt
      have hzH := Lib.hid (jmade_int wl)
      clear kl hws hbs hra
      go_wp2_with (at_make; refine wpList_make_full _ rfl _ _ 81 rfl W2.heap.size 83 i0 (.int .i64 0) 1 Tryz.underlying81 hi hz0 hz1 .i64 .i64 (wl : Int) (wl : Int) wl rfl rfl (by simp) (by simp) (by rw [hz2]; omega) (by unfold maxLen; omega) (by simp) ?_; intro W3 hown hg; have kl3 := klH.out.kept hg (by simp); clear m0 m1; have m0 : W3.cell? ⟨wo.heap.size, 0, none⟩ = some (.slice wa wl wc) := kl3.cell (i := 0) rfl; have m1 : W3.cell? ⟨wo.heap.size, 1, none⟩ = some (.slice ba wl bc) := kl3.cell (i := 1) rfl)
      obtain ⟨f, hf⟩ : ∃ f, layF L (decide (k + 1 < nn)) l = f := ⟨_, rfl⟩
      have row3 : W3.ownsRow W2.heap.size 83 1 (.slice (some ⟨W2.heap.size, 0, none⟩) wl wl) wl (madeCells (Value.cells (.int .i64 0)) (wl * 1)).toList := hown
      rw [hzH.out, ← layTo_zero f wl] at row3
      have hb3 : Below W2.heap.size W2 W3 := (Below.refl _ _).grown hg (Nat.le_refl _) (fun k e => by cases e)
      have hfH := Lib.hid hf
      clear hown hg hzH m0 m1 kl3 hEW2 hf
      go_loopw [30] (fun i wv => ∃ j : Nat, j ≤ wl ∧ i = .int .i64 (j : Int) ∧ wv.ownsRow W2.heap.size 83 1 (.slice (some ⟨W2.heap.size, 0, none⟩) wl wl) wl ((layTo f wl j).map (Value.int .i64)) ∧ Below W2.heap.size W2 wv) (fun i _ => wl - (intOf i).toNat)
      case atStart => exact ⟨0, Nat.zero_le _, rfl, row3, hb3⟩
      case round =>
        clear row3 hb3 hc1 hc2
        obtain ⟨j, hj, rfl, rowj, hb4⟩ := hrel
        have klj := klH.out.below hb4 hls
        have knj := kn2H.out.below hb4 (by have := hb2.size; have := knH.out.lt; omega)
        have m0 : wr.cell? ⟨wo.heap.size, 0, none⟩ = some (.slice wa wl wc) := klj.cell (i := 0) rfl
        have m1 : wr.cell? ⟨wo.heap.size, 1, none⟩ = some (.slice ba wl bc) := klj.cell (i := 1) rfl
        have c4 : wr.cell? ⟨w.heap.size, 4, none⟩ = some (.slice (some ⟨nb, no, none⟩) nn nc) := knj.cell (i := 4) rfl
        clear klj knj
        by_cases hlt2 : j < wl
        case neg =>
          have hjw : j = wl := by omega
          subst hjw
          rw [layTo_all] at rowj
          have hnxt : numAt N.Ls x (k + 1) = (List.range j).map f := by
            show layL (layAt N.Ls k) (decide (k + 1 < N.Ls.length)) (numAt N.Ls x k) = _
            rw [hLH.out, hleH.out, hnnH.out]
            unfold layL
            rw [hblH.out, hfH.out]
          have hwid : widthN N.nf N.Ls (k + 1) = j := by
            show (layAt N.Ls k).bs.length = j
            rw [hLH.out, hblH.out]
          have hrdn := rowU_rd (by simp) rowj
          rw [← hnxt] at hrdn
          have hrdnH := Lib.hid hrdn
          have hwidH := Lib.hid hwid
          have hb5 := hb2.trans (hb4.mono hb2.size)
          clear hnxt hrdn hwid rowj
          go_wp2_with fail
          go_roundw
          case rel => exact ⟨k + 1, _, _, by omega, by go_num, by rw [hwidH.out], hrdnH, hb5⟩
          case measure => simp [intOf]; omega
        case pos =>
          have hjb : j < L.bs.length := by have := hblH.out; omega
          have hjw : j < L.ws.length := by have := hwlH.out; omega
          rcases hbsH.out with h0 | ⟨bb, bo, rfl, hbb, hbc⟩
          · rw [h0] at hjb; simp at hjb
          have hcb := (hb4.cell (p := ⟨bb, bo + j, none⟩) hbb).trans (hbc j hjb)
          obtain ⟨wb, wq, rfl, hwb, ra, rc, hcw, hrow⟩ := hwsH.out.at hjw
          have hcw1 := (hb4.cell (p := ⟨wb, wq + j, none⟩) hwb).trans hcw
          obtain ⟨hrl, hrw⟩ := hLokH.out.row j hjb
          rw [hrl] at hcw1
          have hrow1 := hrow.below (Nat.le_refl _) hb4
          have hra1 := hraH.out.below (Nat.le_refl _) hb4
          obtain ⟨r, hre⟩ : ∃ r, L.ws[j]?.getD [] = r := ⟨_, rfl⟩
          obtain ⟨bv, hbv⟩ : ∃ y, L.bs[j]?.getD 0 = y := ⟨_, rfl⟩
          rw [hre] at hrow1 hrl hrw
          rw [hbv] at hcb
          have hbv2 : bAt L j = bv := hbv
          have hreH := Lib.hid hre
          have hbvH := Lib.hid hbv2
          have hrlH := Lib.hid hrl
          have hrow1H := Lib.hid hrow1
          have hra1H := Lib.hid hra1
          have hrwH := Lib.hid hrw
          clear hbc hrow hre hbv hbv2 hrl hrow1 hra1 hrw hcw
          have tok1 : True := trivial
          have tok2 : True := trivial
          go_wp2_with (go_at_call 37; have _t := tok1; refine (bias_num _ _).mono ?_; clear _t tok1; rintro e w1 ⟨rfl, rfl⟩)
          go_loop [12, 44] (fun s i => ∃ (q : Nat) (z : Int), q ≤ B ∧ i = .int .i64 (q : Int) ∧ s = .int .i64 z ∧ Hid (partL L l j q = z)) (fun _ i => B - (intOf i).toNat)
          case atStart => exact ⟨0, bv, Nat.zero_le _, rfl, rfl, Lib.hid (by unfold partL; rw [hbvH.out]; simp [sumJ])⟩
          case round =>
            obtain ⟨q, z, hq, rfl, rfl, hz⟩ := hrel
            by_cases hlt3 : q < B
            case neg =>
              have hqB : q = B := by omega
              subst hqB
              have hfj : f j = cutI (decide (k + 1 < nn)) z := by rw [← hfH.out, ← hz.out]; unfold layF partL; rw [hlenH.out]
              have hst := (rowj.stored j (.int .i64 (f j))).1
              simp only [map_set_i] at hst
              rw [layTo_set f hlt2] at hst
              have hcz := rowj.cellAt j (by rw [Nat.mul_one]; exact hlt2)
              rw [List.getElem?_map, List.getElem?_eq_getElem (by rw [layTo_length]; exact hlt2)] at hcz
              simp only [Option.map_some] at hcz
              obtain ⟨y0, hy0⟩ : ∃ y, (layTo f wl j)[j]'(by rw [layTo_length]; exact hlt2) = y := ⟨_, rfl⟩
              rw [hy0] at hcz
              change wr.cell? ⟨W2.heap.size, j, none⟩ = some (.int .i64 y0) at hcz
              have hfr := rowj.frozenAt j
              have hnx : ∀ v, f j = v → (wr.setCell ⟨W2.heap.size, j, none⟩ (.int .i64 v)).ownsRow W2.heap.size 83 1 (.slice (some ⟨W2.heap.size, 0, none⟩) wl wl) wl ((layTo f wl (j + 1)).map (Value.int .i64)) ∧ Below W2.heap.size W2 (wr.setCell ⟨W2.heap.size, j, none⟩ (.int .i64 v)) := fun v hv => by
                rw [← hv]
                exact ⟨hst, hb4.setCell (p := ⟨W2.heap.size, j, none⟩) (Nat.le_refl _) _⟩
              have hnxH := Lib.hid hnx
              clear hst hy0 hz hnx
              by_cases hlast : k + 1 < nn
              case pos =>
                rw [decide_eq_true hlast] at hfj
                have hd : decide ((k : Int) < (nn : Int) - 1) = true := by simp; omega
                have hd2 : (k : Int) < (nn : Int) - 1 := by omega
                have hfjH := Lib.hid hfj
                clear hfj
                go_wp2_with (go_at_call 141; have _t := tok2; refine (cut_num _ _).mono ?_; clear _t tok2; rintro e w1 ⟨rfl, rfl⟩)
                go_roundw
                case rel => exact ⟨j + 1, by omega, by go_num, (hnxH.out _ hfjH.out).1, (hnxH.out _ hfjH.out).2⟩
                case measure => simp [intOf]; omega
              case neg =>
                rw [decide_eq_false hlast] at hfj
                have hd : decide ((k : Int) < (nn : Int) - 1) = false := by simp; omega
                have hd2 : ¬ ((k : Int) < (nn : Int) - 1) := by omega
                have hfjH := Lib.hid (hfj.trans (show cutI false z = z from rfl))
                clear hfj
                go_wp2_with fail
                go_roundw
                case rel => exact ⟨j + 1, by omega, by go_num, (hnxH.out _ hfjH.out).1, (hnxH.out _ hfjH.out).2⟩
                case measure => simp [intOf]; omega
            case pos =>
              have hqr : q < r.length := by have := hrlH.out; omega
              have hql : q < l.length := by have := hlenH.out; omega
              rcases hrow1H.out with h0 | ⟨rb, ro, rfl, hrb, hrc⟩
              · rw [h0] at hqr; simp at hqr
              rcases hra1H.out with h0 | ⟨ab, ao, rfl, hab, hac⟩
              · rw [h0] at hql; simp at hql
              have hcr := hrc q hqr
              have hcl := hac q hql
              have hwv : wAt L j q = r[q]?.getD 0 := by unfold wAt; rw [hreH.out]
              obtain ⟨u, hu⟩ : ∃ u, r[q]?.getD 0 = u := ⟨_, rfl⟩
              obtain ⟨y, hy⟩ : ∃ y, l[q]?.getD 0 = y := ⟨_, rfl⟩
              rw [hu] at hcr hwv
              rw [hy] at hcl
              have hub := wAt_bd hLokH.out hjb hlt3
              rw [hwv] at hub
              have hyb := hlbH.out q
              rw [hy] at hyb
              have hBm := Bn_max (i := k) (by omega)
              have hBm1 := Bn_max (i := k + 1) (by omega)
              have hBn := Bn_pos k
              have hpb := w_mul_bd hub.1 hub.2 hyb.1 hyb.2
              have hst : partL L l j (q + 1) = z + u * y := by
                rw [← hz.out, ← hy, ← hwv]; unfold partL; simp only [sumJ]; omega
              have hsb := partL_bd hLokH.out hlw.2 hBn hlbH.out hjb (m := q + 1) (by omega)
              rw [hst] at hsb
              have hBe1 : Bn (k + 1) = 1000000 + 16000 * Bn k := rfl
              rw [← hBe1] at hsb
              have hcallH := Lib.hid (fun W => plus_num z u y (by omega) (by omega) (by omega) (by omega) W)
              have hstH := Lib.hid hst
              clear hrc hac hu hy hwv hub hyb hBm hBm1 hBn hpb hst hsb hBe1
              go_wp2_with (go_at_call 142; have _t := tok2; refine (hcallH.out _).mono ?_; clear _t tok2; rintro e w1 ⟨rfl, rfl⟩)
              go_round
              case rel => exact ⟨q + 1, z + u * y, by omega, by go_num, rfl, hstH⟩
              case measure => simp [intOf]; omega

end Go.Proofs.YtbdnjhnlfpfhcaaGreat

namespace Go.Proofs.YtbdnjhnlfpfhcaaGreat
open Go Go.RowKit Go.Shelf
set_option linter.unusedVariables false
set_option linter.unusedSimpArgs false

/-- The blocks of two slices are not the same. -/
def Dis (v u : Value) : Prop := ∀ b, v.ownBlock = some b → u.ownBlock ≠ some b
theorem Dis.symm {v u : Value} (h : Dis v u) : Dis u v := fun b hb hv => h b hv hb
theorem Dis.grown {v u v' : Value} {W : World} (h : Dis v u) (hv : v'.ownBlock = v.ownBlock ∨ v'.ownBlock = some W.heap.size) (hu : ∀ b, u.ownBlock = some b → b < W.heap.size) : Dis v' u := fun b hb he => by
  rcases hv with hv | hv
  · exact h b (hv ▸ hb) he
  · rw [hv] at hb
    cases hb
    exact Nat.lt_irrefl _ (hu _ he)
theorem Dis.nil (u : Value) : Dis (.slice none 0 0) u := fun b hb => by cases hb
theorem jb_al2 {a w : World} (h : Below a.heap.size a w) (o : Obj) : Below a.heap.size a (w.alloc o) := h.alloc h.size o
end Go.Proofs.YtbdnjhnlfpfhcaaGreat
