/- The specification's Featured. -/
import Derived.Test.YtbfigbpjoaccdaaFe
import Derived.Test.YtbfigbpjoaccdaaImgM
namespace Go.Proofs.Ytbfigbpjoaccdaa
open Go Go.RowKit Go.Shelf
set_option linter.unusedVariables false
set_option linter.unusedSimpArgs false

/-- The sum of a cell's rectangle, by the cell's number. -/
def cellS (gx cw ch : Nat) (g : Nat → Nat → Int) (c : Nat) : Int := rect g (c % gx * cw) (c / gx * ch) ((c % gx + 1) * cw) ((c / gx + 1) * ch)
theorem cellS_at {gx cw ch : Nat} {g : Nat → Nat → Int} {i j : Nat} (hi : i < gx) : cellS gx cw ch g (j * gx + i) = rect g (i * cw) (j * ch) ((i + 1) * cw) ((j + 1) * ch) := by
  unfold cellS
  rw [idx_mod j hi, idx_div j hi]
theorem cellS_snoc (f : Nat → Int) (k : Nat) : ((List.range k).map f).map (Value.int .i64) ++ [Value.int .i64 (f k)] = ((List.range (k + 1)).map f).map (Value.int .i64) := by
  rw [List.range_succ, List.map_append, List.map_append]; rfl
set_option maxRecDepth 100000 in
set_option maxHeartbeats 8000000 in
theorem Featured_walk (pw ph gx gy cw ch nf l : Nat) (hC : Cells pw ph cw ch gx gy) (hnf : nf = gx * gy) (h1 : 1 ≤ gx) (h2 : gx ≤ 4) (h3 : 1 ≤ gy) (h4 : gy ≤ 4) (p1 : 1 ≤ pw) (p2 : pw ≤ 16) (q1 : 1 ≤ ph) (q2 : ph ≤ 16) (xs : List Int) (hl : xs.length = l) (hlen : l = ph * pw) (hv : allIn (-2147483648) 2147483648 xs = true)
    (low high : Int) (na pa : Option Addr) (nn nc pc : Nat) (w : World) (hp : Rd w.heap.size w pa xs) :
    Calls Try.prog 22 #[.agg #[.int .i64 (pw : Int), .int .i64 (ph : Int), .int .i64 (gx : Int), .int .i64 (gy : Int), .slice na nn nc, .int .i64 low, .int .i64 high], .agg #[.int .i64 (pw : Int), .int .i64 (ph : Int), .slice pa l pc]] w fun e w' => ∃ s sc, e = .returned (.slice s nf sc) ∧
      w'.ownsRow w.heap.size 3 1 (.slice s nf sc) nf (((List.range nf).map (cellS gx cw ch (gpx pw xs))).map (Value.int .i64)) ∧ Below w.heap.size w w' := by
  obtain ⟨i0, hi, hz0, hz1, hz2⟩ := info_parts jinfo_int
  have hlH := Lib.hid hl
  have hvH := Lib.hid hv
  have hCH := Lib.hid hC
  have hl256 : l ≤ 256 := by
    have : ph * pw ≤ 16 * 16 := Nat.mul_le_mul q2 p2
    omega
  have hlenH := Lib.hid (show (l : Int) = (pw : Int) * (ph : Int) by rw [hlen, Int.natCast_mul, Int.mul_comm])
  have hcw : (pw : Int).tdiv (gx : Int) = (cw : Int) := by
    rw [← hC.ex, ← Int.ofNat_tdiv, Nat.mul_div_cancel_left _ (by omega)]
  have hch : (ph : Int).tdiv (gy : Int) = (ch : Int) := by
    rw [← hC.ey, ← Int.ofNat_tdiv, Nat.mul_div_cancel_left _ (by omega)]
  have hgx0 : ¬ gx = 0 := by omega
  have hgy0 : ¬ gy = 0 := by omega
  have hcw16 : cw ≤ 16 := by have := Nat.le_mul_of_pos_left cw (show 0 < gx by omega); have := hC.ex; omega
  have hch16 : ch ≤ 16 := by have := Nat.le_mul_of_pos_left ch (show 0 < gy by omega); have := hC.ey; omega
  have hnfH := Lib.hid hnf
  clear hl hv hC hlen hnf
  have hbW1 : Below w.heap.size w (w.alloc (.cells #[.int .i64 (pw : Int), .int .i64 (ph : Int), .int .i64 (gx : Int), .int .i64 (gy : Int), .slice na nn nc, .int .i64 low, .int .i64 high] 24)) := jb_al (Below.refl _ w) _
  have kn := Blk.new w 24 #[.int .i64 (pw : Int), .int .i64 (ph : Int), .int .i64 (gx : Int), .int .i64 (gy : Int), .slice na nn nc, .int .i64 low, .int .i64 high]
  obtain ⟨W1, hEW1⟩ : ∃ X, w.alloc (.cells #[.int .i64 (pw : Int), .int .i64 (ph : Int), .int .i64 (gx : Int), .int .i64 (gy : Int), .slice na nn nc, .int .i64 low, .int .i64 high] 24) = X := ⟨_, rfl⟩
  rw [hEW1] at hbW1 kn
  have hbW2 : Below W1.heap.size W1 (W1.alloc (.cells #[.int .i64 (pw : Int), .int .i64 (ph : Int), .slice pa l pc] 27)) := jb_al (Below.refl _ W1) _
  have ki := Blk.new W1 27 #[.int .i64 (pw : Int), .int .i64 (ph : Int), .slice pa l pc]
  obtain ⟨W2, hEW2⟩ : ∃ X, W1.alloc (.cells #[.int .i64 (pw : Int), .int .i64 (ph : Int), .slice pa l pc] 27) = X := ⟨_, rfl⟩
  rw [hEW2] at hbW2 ki
  have kn2 := kn.below hbW2 kn.lt
  have c0 : W2.cell? ⟨w.heap.size, 0, none⟩ = some (.int .i64 (pw : Int)) := kn2.cell (i := 0) rfl
  have c1 : W2.cell? ⟨w.heap.size, 1, none⟩ = some (.int .i64 (ph : Int)) := kn2.cell (i := 1) rfl
  have c2 : W2.cell? ⟨w.heap.size, 2, none⟩ = some (.int .i64 (gx : Int)) := kn2.cell (i := 2) rfl
  have c3 : W2.cell? ⟨w.heap.size, 3, none⟩ = some (.int .i64 (gy : Int)) := kn2.cell (i := 3) rfl
  have hB2 : Below w.heap.size w W2 := hbW1.trans (hbW2.mono hbW1.size)
  have hs12 : W1.heap.size < W2.heap.size := ki.lt
  have hs01 : w.heap.size < W1.heap.size := kn.lt
  have hpH := Lib.hid ((later_i hp hB2))
  have kn2H := Lib.hid kn2
  have kiH := Lib.hid ki
  clear kn kn2 ki hp hbW1 hbW2
  go_enter Try.func22, Try.ntmps22
  go_wp2_with fail
  have hS0 : W2.drew.heap = W2.heap := rfl
  refine plain_region (fun W' => W'.heap = W2.heap) 12 12 (by kernel_rfl) rfl ?_
  simp only [Array.replicate_succ, Array.replicate_zero, List.push_toArray, List.nil_append, List.cons_append]
  refine take_op 0 (v := ?fv0) rfl (by kernel_rfl) (fun _ _ _ h => h) (by rfl) hS0 (fun w' hS' => ?fy0) ?fz0
  case fy0 =>
    go_simp
    rfl
  simp only [List.setIfInBounds_toArray, List.set_cons_zero, List.set_cons_succ]
  refine take_op 1 (v := ?fv1) rfl (by kernel_rfl) (fun _ _ _ h => h) (by rfl) hS0 (fun w' hS' => ?fy1) ?fz1
  case fy1 =>
    have e0 := (World.cell?_of_block (w := W2) (w' := w') (a := ⟨w.heap.size, 0, none⟩) (by rw [hS'])).trans c0
    have e1 := (World.cell?_of_block (w := W2) (w' := w') (a := ⟨w.heap.size, 1, none⟩) (by rw [hS'])).trans c1
    have e2 := (World.cell?_of_block (w := W2) (w' := w') (a := ⟨w.heap.size, 2, none⟩) (by rw [hS'])).trans c2
    have e3 := (World.cell?_of_block (w := W2) (w' := w') (a := ⟨w.heap.size, 3, none⟩) (by rw [hS'])).trans c3
    clear hS'
    go_simp
    rfl
  simp only [List.setIfInBounds_toArray, List.set_cons_zero, List.set_cons_succ]
  refine take_op 2 (v := ?fv2) rfl (by kernel_rfl) (fun _ _ _ h => h) (by rfl) hS0 (fun w' hS' => ?fy2) ?fz2
  case fy2 =>
    go_simp
    rfl
  simp only [List.setIfInBounds_toArray, List.set_cons_zero, List.set_cons_succ]
  refine take_op 3 (v := ?fv3) rfl (by kernel_rfl) (fun _ _ _ h => h) (by rfl) hS0 (fun w' hS' => ?fy3) ?fz3
  case fy3 =>
    have e0 := (World.cell?_of_block (w := W2) (w' := w') (a := ⟨w.heap.size, 0, none⟩) (by rw [hS'])).trans c0
    have e1 := (World.cell?_of_block (w := W2) (w' := w') (a := ⟨w.heap.size, 1, none⟩) (by rw [hS'])).trans c1
    have e2 := (World.cell?_of_block (w := W2) (w' := w') (a := ⟨w.heap.size, 2, none⟩) (by rw [hS'])).trans c2
    have e3 := (World.cell?_of_block (w := W2) (w' := w') (a := ⟨w.heap.size, 3, none⟩) (by rw [hS'])).trans c3
    clear hS'
    go_simp
    rfl
  simp only [List.setIfInBounds_toArray, List.set_cons_zero, List.set_cons_succ]
  refine take_op 4 (v := ?fv4) rfl (by kernel_rfl) (fun _ _ _ h => h) (by rfl) hS0 (fun w' hS' => ?fy4) ?fz4
  case fy4 =>
    go_simp
    try go_ints
    rfl
  simp only [List.setIfInBounds_toArray, List.set_cons_zero, List.set_cons_succ]
  refine take_op 5 (v := ?fv5) rfl (by kernel_rfl) (fun _ _ _ h => h) (by rfl) hS0 (fun w' hS' => ?fy5) ?fz5
  case fy5 =>
    go_simp
    rfl
  simp only [List.setIfInBounds_toArray, List.set_cons_zero, List.set_cons_succ]
  refine take_op 6 (v := ?fv6) rfl (by kernel_rfl) (fun _ _ _ h => h) (by rfl) hS0 (fun w' hS' => ?fy6) ?fz6
  case fy6 =>
    have e0 := (World.cell?_of_block (w := W2) (w' := w') (a := ⟨w.heap.size, 0, none⟩) (by rw [hS'])).trans c0
    have e1 := (World.cell?_of_block (w := W2) (w' := w') (a := ⟨w.heap.size, 1, none⟩) (by rw [hS'])).trans c1
    have e2 := (World.cell?_of_block (w := W2) (w' := w') (a := ⟨w.heap.size, 2, none⟩) (by rw [hS'])).trans c2
    have e3 := (World.cell?_of_block (w := W2) (w' := w') (a := ⟨w.heap.size, 3, none⟩) (by rw [hS'])).trans c3
    clear hS'
    go_simp
    rfl
  simp only [List.setIfInBounds_toArray, List.set_cons_zero, List.set_cons_succ]
  refine take_op 7 (v := ?fv7) rfl (by kernel_rfl) (fun _ _ _ h => h) (by rfl) hS0 (fun w' hS' => ?fy7) ?fz7
  case fy7 =>
    go_simp
    rfl
  simp only [List.setIfInBounds_toArray, List.set_cons_zero, List.set_cons_succ]
  refine take_op 8 (v := ?fv8) rfl (by kernel_rfl) (fun _ _ _ h => h) (by rfl) hS0 (fun w' hS' => ?fy8) ?fz8
  case fy8 =>
    have e0 := (World.cell?_of_block (w := W2) (w' := w') (a := ⟨w.heap.size, 0, none⟩) (by rw [hS'])).trans c0
    have e1 := (World.cell?_of_block (w := W2) (w' := w') (a := ⟨w.heap.size, 1, none⟩) (by rw [hS'])).trans c1
    have e2 := (World.cell?_of_block (w := W2) (w' := w') (a := ⟨w.heap.size, 2, none⟩) (by rw [hS'])).trans c2
    have e3 := (World.cell?_of_block (w := W2) (w' := w') (a := ⟨w.heap.size, 3, none⟩) (by rw [hS'])).trans c3
    clear hS'
    go_simp
    rfl
  simp only [List.setIfInBounds_toArray, List.set_cons_zero, List.set_cons_succ]
  refine take_op 9 (v := ?fv9) rfl (by kernel_rfl) (fun _ _ _ h => h) (by rfl) hS0 (fun w' hS' => ?fy9) ?fz9
  case fy9 =>
    go_simp
    try go_ints
    rfl
  simp only [List.setIfInBounds_toArray, List.set_cons_zero, List.set_cons_succ]
  refine take_op 10 (v := ?fv10) rfl (by kernel_rfl) (fun _ _ _ h => h) (by rfl) hS0 (fun w' hS' => ?fy10) ?fz10
  case fy10 =>
    go_simp
    rfl
  simp only [List.setIfInBounds_toArray, List.set_cons_zero, List.set_cons_succ]
  refine take_op 11 (v := ?fv11) rfl (by kernel_rfl) (fun _ _ _ h => h) (by rfl) hS0 (fun w' hS' => ?fy11) ?fz11
  case fy11 =>
    go_simp
    rfl
  simp only [List.setIfInBounds_toArray, List.set_cons_zero, List.set_cons_succ]
  refine done_ops (by kernel_rfl) ?_
  go_wp2_with fail
  clear hEW1 hEW2 hS0 c0 c1 c2 c3
  go_loopw [5, 8] (fun v i wr => ∃ j : Nat, j ≤ gy ∧ i = .int .i64 (j : Int) ∧ wr.ownsRow W2.heap.size 3 1 v (j * gx) (((List.range (j * gx)).map (cellS gx cw ch (gpx pw xs))).map (Value.int .i64)) ∧ Below W2.heap.size W2 wr) (fun _ i _ => gy - (intOf i).toNat)
  case atStart => exact ⟨0, Nat.zero_le _, rfl, by rw [Nat.zero_mul]; exact World.ownsRow_nil _ _ _ _, (Below.refl _ _).drew⟩
  case round =>
    obtain ⟨j, hj, rfl, rowj, hb⟩ := hrel
    have knr := kn2H.out.below hb (by omega)
    have c3 : wr.cell? ⟨w.heap.size, 3, none⟩ = some (.int .i64 (gy : Int)) := knr.cell (i := 3) rfl
    clear knr
    by_cases hlt : j < gy
    case neg =>
      have hjg : j = gy := by omega
      subst hjg
      have e : j * gx = nf := by rw [hnfH.out, Nat.mul_comm]
      rw [e] at rowj
      obtain ⟨sa, sc, rfl⟩ := jrow_slice rowj
      go_wp2_with fail
      go_ret
      exact ⟨_, _, rfl, own_mono_j rowj hB2.size, hB2.trans (hb.mono hB2.size)⟩
    case pos =>
      go_wp2_with fail
      clear c3
      go_loopw [5, 9] (fun v i wr => ∃ k : Nat, k ≤ gx ∧ i = .int .i64 (k : Int) ∧ wr.ownsRow W2.heap.size 3 1 v (j * gx + k) (((List.range (j * gx + k)).map (cellS gx cw ch (gpx pw xs))).map (Value.int .i64)) ∧ Below W2.heap.size W2 wr) (fun _ i _ => gx - (intOf i).toNat)
      case atStart => exact ⟨0, Nat.zero_le _, rfl, rowj, hb⟩
      case round =>
        clear rowj hb
        obtain ⟨k, hk, rfl, rowk, hb⟩ := hrel
        have knr := kn2H.out.below hb (by omega)
        have kir := kiH.out.below hb hs12
        have c2 : wr.cell? ⟨w.heap.size, 2, none⟩ = some (.int .i64 (gx : Int)) := knr.cell (i := 2) rfl
        have d0 : wr.cell? ⟨W1.heap.size, 0, none⟩ = some (.int .i64 (pw : Int)) := kir.cell (i := 0) rfl
        have d1 : wr.cell? ⟨W1.heap.size, 1, none⟩ = some (.int .i64 (ph : Int)) := kir.cell (i := 1) rfl
        have d2 : wr.cell? ⟨W1.heap.size, 2, none⟩ = some (.slice pa l pc) := kir.cell (i := 2) rfl
        clear knr kir
        by_cases hlt2 : k < gx
        case neg =>
          have hkg : k = gx := by omega
          subst hkg
          go_wp2_with fail
          go_roundw
          case rel => exact ⟨j + 1, by omega, by go_num, by rw [Nat.add_mul, Nat.one_mul]; exact rowk, hb⟩
          case measure => simp [intOf]; omega
        case pos =>
          obtain ⟨X0, hX0⟩ : ∃ n, k * cw = n := ⟨_, rfl⟩
          obtain ⟨X1, hX1⟩ : ∃ n, (k + 1) * cw = n := ⟨_, rfl⟩
          obtain ⟨Y0, hY0⟩ : ∃ n, j * ch = n := ⟨_, rfl⟩
          obtain ⟨Y1, hY1⟩ : ∃ n, (j + 1) * ch = n := ⟨_, rfl⟩
          have z1 : X0 ≤ X1 := by rw [← hX0, ← hX1]; exact Nat.mul_le_mul_right _ (by omega)
          have z2 : X1 ≤ pw := by rw [← hX1, ← hCH.out.ex]; exact Nat.mul_le_mul_right _ (by omega)
          have z3 : Y0 ≤ Y1 := by rw [← hY0, ← hY1]; exact Nat.mul_le_mul_right _ (by omega)
          have z4 : Y1 ≤ ph := by rw [← hY1, ← hCH.out.ey]; exact Nat.mul_le_mul_right _ (by omega)
          have m0 : (k : Int) * (cw : Int) = (X0 : Int) := by rw [← hX0]; simp
          have m1 : ((k : Int) + 1) * (cw : Int) = (X1 : Int) := by rw [← hX1]; simp
          have m2 : (j : Int) * (ch : Int) = (Y0 : Int) := by rw [← hY0]; simp
          have m3 : ((j : Int) + 1) * (ch : Int) = (Y1 : Int) := by rw [← hY1]; simp
          have hval : (cellS gx cw ch (gpx pw xs)) (j * gx + k) = rect (gpx pw xs) X0 Y0 X1 Y1 := by rw [cellS_at hlt2, hX0, hX1, hY0, hY1]
          have hsn := cellS_snoc (cellS gx cw ch (gpx pw xs)) (j * gx + k)
          obtain ⟨R, hR⟩ : ∃ R, rect (gpx pw xs) X0 Y0 X1 Y1 = R := ⟨_, rfl⟩
          rw [hval, hR] at hsn
          have hcall := Sum_any pw ph pa pc l xs hlH X0 Y0 X1 Y1 z1 z2 z3 z4 p1 p2 q1 q2 hlenH hvH wr (later_i hpH.out hb)
          rw [hR] at hcall
          have hcallH := Lib.hid hcall
          obtain ⟨P, hP⟩ : ∃ P, j * gx + k = P := ⟨_, rfl⟩
          have hP32 : P ≤ 32 := by have : j * gx ≤ 4 * 4 := Nat.mul_le_mul (by omega) h2; omega
          have hPH := Lib.hid hP
          rw [hP] at rowk hsn
          have hsnH := Lib.hid hsn
          clear hcall hsn hval hR hX0 hX1 hY0 hY1 hP
          have tok1 : True := trivial
          go_wp2_with (first
            | (go_at_call 42; have _t := tok1; refine (hcallH.out).mono ?_; clear _t tok1; rintro e w3 ⟨rfl, hb3⟩; have row3 := row_below rowk hb3; have hownA := row3.alloc (.cells #[.int .i64 R] 3); have hb4 := hb.trans (hb3.mono hb.size); have hBA : Below W2.heap.size W2 (w3.alloc (.cells #[.int .i64 R] 3)) := jb_al hb4 _; clear c2 d0 d1 d2 rowk row3)
            | (at_builtin; refine wpList_append_own _ rfl _ _ 25 rfl W2.heap.size 3 i0 (.int .i64 0) 1 8 Try.underlying25 hi hz0 hz1 hz2 rfl (by decide) u5 P (((List.range P).map (cellS gx cw ch (gpx pw xs))).map (Value.int .i64)) rfl hownA ⟨w3.heap.size, 0, none⟩ 1 1 [.int .i64 R] rfl rfl (cell_one_new _ _ _) (by simp [Value.oneCell']) (by unfold maxLen; omega) (by omega) hBA.size ?_; intro v' w4 hown' hgrow hnil))
          rw [hsnH.out] at hown'
          have hBB := hBA.trans (below_of_row (n := W2.heap.size) hownA hgrow (Nat.le_refl _) hBA.size)
          go_roundw
          case rel => exact ⟨k + 1, by omega, by go_num, by rw [← Nat.add_assoc, hPH.out]; exact hown', hBB⟩
          case measure => simp [intOf]; omega

set_option maxRecDepth 100000 in
set_option maxHeartbeats 2000000 in
/-- The letters of a valid network and an image of its size. -/
theorem net_letters {N : NetN} (h : NetOk N) {m : ImN} (hw : m.w = N.w) (hh : m.h = N.h) (hc : camB m = true) :
    ∃ pw ph gx gy cw ch : Nat, N.w = (pw : Int) ∧ N.h = (ph : Int) ∧ N.gx = (gx : Int) ∧ N.gy = (gy : Int) ∧ Cells pw ph cw ch gx gy ∧ N.nf = gx * gy ∧ (1 ≤ gx ∧ gx ≤ 4) ∧ (1 ≤ gy ∧ gy ≤ 4) ∧ (1 ≤ pw ∧ pw ≤ 16) ∧ (1 ≤ ph ∧ ph ≤ 16) ∧
      m.px.length = ph * pw ∧ allIn 0 255 m.px = true ∧ allIn (-2147483648) 2147483648 m.px = true ∧ featL N m.px = featsTo pw cw ch gx (fun i => m.px[i]?.getD 0) N.nf m.px.length ∧ featL N m.px = (List.range N.nf).map (cellS gx cw ch (gpx pw m.px)) := by
  have h1 := h.gx
  have h2 := h.gy
  have h3 := h.w
  have h4 := h.h
  simp only [camB, Bool.and_eq_true] at hc
  obtain ⟨_, _, v3, v4⟩ := vld_true hc.1
  have hlen : m.px.length = N.h.toNat * N.w.toNat := by
    rw [hw, hh, show N.w = (N.w.toNat : Int) by omega, show N.h = (N.h.toNat : Int) by omega, Int.mul_comm] at v3
    exact_mod_cast v3
  refine ⟨N.w.toNat, N.h.toNat, N.gx.toNat, N.gy.toNat, _, _, by omega, by omega, by omega, by omega, h.cells, h.nfN, by omega, by omega, by omega, by omega, hlen, hc.2, v4, rfl, ?_⟩
  refine (featL_rect h hlen (gpx N.w.toNat m.px) fun x y hx hy => ?_).trans rfl
  unfold gpx px
  congr 2
theorem features_any (N : NetN) (hN : NetOk N) (na : Option Addr) (nn nc : Nat) (m : ImN) (hw : m.w = N.w) (hh : m.h = N.h) (hc : camB m = true) (pa : Option Addr) (l pc : Nat) (hl : m.px.length = l) (w : World) (hp : Rd w.heap.size w pa m.px) :
    Calls Try.prog 20 #[netv N na nn nc, imv m.w m.h pa l pc] w fun e w' => ∃ s sc, e = .returned (.slice s N.nf sc) ∧
      w'.ownsRow w.heap.size 3 1 (.slice s N.nf sc) N.nf ((featL N m.px).map (Value.int .i64)) ∧ Below w.heap.size w w' := by
  obtain ⟨pw, ph, gx, gy, cw, ch, e1, e2, e3, e4, hC, hnf, g1, g2, g3, g4, hlen, hv, _, hf, _⟩ := net_letters hN hw hh hc
  obtain ⟨W, H, GX, GY, Ls, low, high⟩ := N
  obtain ⟨iw, ih, xs⟩ := m
  simp only at e1 e2 e3 e4 hw hh hlen hv hl hp
  subst e1 e2 e3 e4 hw hh
  rw [hf]
  simp only at hf ⊢
  refine (features_walk pw ph gx gy cw ch (NetN.nf ⟨(pw : Int), (ph : Int), (gx : Int), (gy : Int), Ls, low, high⟩) l hC hnf g1.1 g1.2 g2.1 g2.2 g3.1 g3.2 g4.1 g4.2 xs hl (by rw [← hl, hlen]) hv low high na pa nn nc pc w hp).mono fun e w' ⟨g, h1, h2, h3⟩ => ⟨_, _, h1, ?_, h3⟩
  rw [hl]
  exact h2
theorem Featured_any (N : NetN) (hN : NetOk N) (na : Option Addr) (nn nc : Nat) (m : ImN) (hw : m.w = N.w) (hh : m.h = N.h) (hc : camB m = true) (pa : Option Addr) (l pc : Nat) (hl : m.px.length = l) (w : World) (hp : Rd w.heap.size w pa m.px) :
    Calls Try.prog 22 #[netv N na nn nc, imv m.w m.h pa l pc] w fun e w' => ∃ s sc, e = .returned (.slice s N.nf sc) ∧
      w'.ownsRow w.heap.size 3 1 (.slice s N.nf sc) N.nf ((featL N m.px).map (Value.int .i64)) ∧ Below w.heap.size w w' := by
  obtain ⟨pw, ph, gx, gy, cw, ch, e1, e2, e3, e4, hC, hnf, g1, g2, g3, g4, hlen, _, hv, _, hf⟩ := net_letters hN hw hh hc
  obtain ⟨W, H, GX, GY, Ls, low, high⟩ := N
  obtain ⟨iw, ih, xs⟩ := m
  simp only at e1 e2 e3 e4 hw hh hlen hv hl hp
  subst e1 e2 e3 e4 hw hh
  rw [hf]
  simp only at hf ⊢
  exact Featured_walk pw ph gx gy cw ch (NetN.nf ⟨(pw : Int), (ph : Int), (gx : Int), (gy : Int), Ls, low, high⟩) l hC hnf g1.1 g1.2 g2.1 g2.2 g3.1 g3.2 g4.1 g4.2 xs hl (by rw [← hl, hlen]) hv low high na pa nn nc pc w hp

end Go.Proofs.Ytbfigbpjoaccdaa
