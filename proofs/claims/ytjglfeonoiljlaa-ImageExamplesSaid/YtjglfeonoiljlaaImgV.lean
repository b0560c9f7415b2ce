/- Values for any place, by a border; the map of the borders' functions. -/
import Derived.Test.YtjglfeonoiljlaaImgU
import Derived.Maps.Own
namespace Go.Proofs.Ytjglfeonoiljlaa
open Go Go.RowKit Go.Shelf
set_option linter.unusedVariables false
set_option linter.unusedSimpArgs false

/-- The value for any place, by a border. -/
def beyF (bd iw ih : Int) (xs : List Int) (x y : Int) : Int :=
  if bd = 1 then (if (inR x 0 (iw - 1) && inR y 0 (ih - 1)) = true then px xs (y * iw + x) else 0)
  else if bd = 2 then px xs (clamp y 0 (ih - 1) * iw + clamp x 0 (iw - 1)) else px xs (y % ih * iw + x % iw)

theorem beyF_in {bd iw ih : Int} {xs : List Int} {x y : Int} (h : (inR x 0 (iw - 1) && inR y 0 (ih - 1)) = true) : beyF bd iw ih xs x y = px xs (y * iw + x) := by
  unfold beyF
  rw [if_pos h]
  simp only [Bool.and_eq_true, inR_true] at h
  rw [show clamp x 0 (iw - 1) = x by unfold clamp; omega, show clamp y 0 (ih - 1) = y by unfold clamp; omega, Int.emod_eq_of_lt (by omega) (by omega), Int.emod_eq_of_lt (by omega) (by omega)]
  split
  · rfl
  · split <;> rfl
theorem beyF_out1 {iw ih : Int} {xs : List Int} {x y : Int} (h : (inR x 0 (iw - 1) && inR y 0 (ih - 1)) = false) : beyF 1 iw ih xs x y = 0 := by
  unfold beyF; rw [if_pos rfl, h]; rfl
theorem beyF_2 (iw ih : Int) (xs : List Int) (x y : Int) : beyF 2 iw ih xs x y = px xs (clamp y 0 (ih - 1) * iw + clamp x 0 (iw - 1)) := by unfold beyF; rw [if_neg (by decide), if_pos rfl]
theorem beyF_3 (iw ih : Int) (xs : List Int) (x y : Int) : beyF 3 iw ih xs x y = px xs (y % ih * iw + x % iw) := by unfold beyF; rw [if_neg (by decide), if_neg (by decide)]
theorem beyF_bd {xs : List Int} (h : allIn (-2147483648) 2147483648 xs = true) (bd iw ih x y : Int) : -2147483648 ≤ beyF bd iw ih xs x y ∧ beyF bd iw ih xs x y ≤ 2147483648 := by
  unfold beyF
  split
  · split
    · exact px_bd h _
    · omega
  · split <;> exact px_bd h _

set_option maxRecDepth 100000 in
set_option maxHeartbeats 2000000 in
theorem zero_any (iw ih : Int) (a : Option Addr) (c n : Nat) (xs : List Int) (hn : Hid (xs.length = n)) (x y : Int) (w : World) (hi1 : 1 ≤ iw) (hi2 : iw ≤ 16) (hi3 : 1 ≤ ih) (hi4 : ih ≤ 16) (hnn : Hid ((n : Int) = iw * ih)) (hx1 : -100 ≤ x) (hx2 : x ≤ 100) (hy1 : -100 ≤ y) (hy2 : y ≤ 100) (r : Int) (hres : Hid (beyF 1 iw ih xs x y = r)) (hr : Rd w.heap.size w a xs) :
    Calls Try.prog 128 #[imv iw ih a n c, .int .i64 x, .int .i64 y] w fun e w' => e = .returned (.int .i64 r) ∧ Below w.heap.size w w' := by
  have hn9 : n ≤ 256 := by
    have := hnn.out
    obtain ⟨m1, m2⟩ := mul_small (a := iw) (b := ih) (m := 16) (n := 16) (by omega) (by omega) (by omega) (by omega)
    omega
  have hB0 : Below w.heap.size w (w.alloc (.cells #[.int .i64 iw, .int .i64 ih, .slice a n c] 100)) := below_al (Below.refl _ _) _
  have k := Blk.new w 100 #[.int .i64 iw, .int .i64 ih, .slice a n c]
  obtain ⟨W, hW⟩ : ∃ W, w.alloc (.cells #[.int .i64 iw, .int .i64 ih, .slice a n c] 100) = W := ⟨_, rfl⟩
  rw [hW] at hB0 k
  obtain ⟨γ, hγ⟩ : ∃ γ, (inR x 0 (iw - 1) && inR y 0 (ih - 1)) = γ := ⟨_, rfl⟩
  have m0 := k.cell (i := 0) rfl
  have m1 := k.cell (i := 1) rfl
  have m2 := k.cell (i := 2) rfl
  go_enter Try.func128, Try.ntmps128
  go_wp2_with fail
  clear hW
  refine (inside_any iw ih x y (.slice a n c) W (by omega) (by omega) (by omega) (by omega) ⟨_, _, _, rfl⟩).mono ?_
  rintro e W1 ⟨rfl, hb⟩
  rw [hγ]
  replace k := k.below hb k.lt
  replace hB0 := hB0.trans (hb.mono hB0.size)
  clear m0 m1 m2 hb
  have m0 := k.cell (i := 0) rfl
  have m1 := k.cell (i := 1) rfl
  have m2 := k.cell (i := 2) rfl
  cases γ with
  | true =>
    have hres2 := Lib.hid ((beyF_in hγ).symm.trans hres.out)
    simp only [Bool.and_eq_true, inR_true] at hγ
    obtain ⟨⟨g1, g2⟩, g3, g4⟩ := hγ
    obtain ⟨q1, q2, q3, q4⟩ := in_idx (iw := iw) (ih := ih) (u := x) (v := y) hi1 hnn.out g1 g2 g3 g4
    go_wp2_with fail
    refine (at_any iw ih x y a c xs n hn _ (Int.le_trans (by decide) q1) (Int.le_trans (Int.le_of_lt q4) (by omega)) q2 q3 (by omega) ((hr.below (Nat.le_refl _) hB0).mono hB0.size)).mono ?_
    rintro e W2 ⟨rfl, hb2⟩
    rw [hres2.out]
    go_wp2_with fail
    go_ret
    exact ⟨rfl, hB0.trans (hb2.mono hB0.size)⟩
  | false =>
    have hres2 := Lib.hid ((beyF_out1 hγ).symm.trans hres.out)
    go_wp2_with fail
    go_ret
    exact ⟨ret_int hres2.out, hB0⟩

set_option maxRecDepth 100000 in
set_option maxHeartbeats 2000000 in
theorem near_any (iw ih : Int) (a : Option Addr) (c n : Nat) (xs : List Int) (hn : Hid (xs.length = n)) (x y : Int) (w : World) (hi1 : 1 ≤ iw) (hi2 : iw ≤ 16) (hi3 : 1 ≤ ih) (hi4 : ih ≤ 16) (hnn : Hid ((n : Int) = iw * ih)) (hx1 : -100 ≤ x) (hx2 : x ≤ 100) (hy1 : -100 ≤ y) (hy2 : y ≤ 100) (r : Int) (hres : Hid (beyF 2 iw ih xs x y = r)) (hr : Rd w.heap.size w a xs) :
    Calls Try.prog 129 #[imv iw ih a n c, .int .i64 x, .int .i64 y] w fun e w' => e = .returned (.int .i64 r) ∧ Below w.heap.size w w' := by
  have hn9 : n ≤ 256 := by
    have := hnn.out
    obtain ⟨m1, m2⟩ := mul_small (a := iw) (b := ih) (m := 16) (n := 16) (by omega) (by omega) (by omega) (by omega)
    omega
  have hB0 : Below w.heap.size w (w.alloc (.cells #[.int .i64 iw, .int .i64 ih, .slice a n c] 100)) := below_al (Below.refl _ _) _
  have k := Blk.new w 100 #[.int .i64 iw, .int .i64 ih, .slice a n c]
  obtain ⟨W, hW⟩ : ∃ W, w.alloc (.cells #[.int .i64 iw, .int .i64 ih, .slice a n c] 100) = W := ⟨_, rfl⟩
  rw [hW] at hB0 k
  obtain ⟨cx1, cx2⟩ := clamp_le (n := x) (lo := 0) (hi := iw - 1) (by omega)
  obtain ⟨cy1, cy2⟩ := clamp_le (n := y) (lo := 0) (hi := ih - 1) (by omega)
  obtain ⟨q1, q2, q3, q4⟩ := in_idx (iw := iw) (ih := ih) (u := clamp x 0 (iw - 1)) (v := clamp y 0 (ih - 1)) hi1 hnn.out cx1 cx2 cy1 cy2
  have hres2 := Lib.hid ((beyF_2 iw ih xs x y).symm.trans hres.out)
  have hS : Below W.heap.size W W.drew := (Below.refl _ _).drew
  have hBd : Below w.heap.size w W.drew := hB0.trans (hS.mono hB0.size)
  go_enter Try.func129, Try.ntmps129
  go_wp2_with fail
  clear hW
  refine plain_region (fun W' => Below W.heap.size W W') 13 13 (by kernel_rfl) rfl ?_
  simp only [Array.replicate_succ, Array.replicate_zero, List.push_toArray, List.nil_append, List.cons_append]
  refine take_op 0 (v := ?rv0) rfl (by kernel_rfl) (fun _ _ _ h => h) (by rfl) hS (fun w' hS' => ?ry0) ?rz0
  case ry0 =>
    have m0 := (k.below hS' k.lt).cell (i := 0) rfl
    have m1 := (k.below hS' k.lt).cell (i := 1) rfl
    have m2 := (k.below hS' k.lt).cell (i := 2) rfl
    go_simp
    rfl
  simp only [List.setIfInBounds_toArray, List.set_cons_zero, List.set_cons_succ]
  refine take_op 1 (v := ?rv1) rfl (by kernel_rfl) (fun _ _ _ h => h) (by rfl) hS (fun w' hS' => ?ry1) ?rz1
  case ry1 =>
    go_simp
    rfl
  simp only [List.setIfInBounds_toArray, List.set_cons_zero, List.set_cons_succ]
  refine take_op 2 (v := ?rv2) rfl (by kernel_rfl) (fun _ _ _ h => h) (by rfl) hS (fun w' hS' => ?ry2) ?rz2
  case ry2 =>
    go_simp
    rfl
  simp only [List.setIfInBounds_toArray, List.set_cons_zero, List.set_cons_succ]
  refine take_op 3 (v := ?rv3) rfl (by kernel_rfl) (fun _ _ _ h => h) (by rfl) hS (fun w' hS' => ?ry3) ?rz3
  case ry3 =>
    have m0 := (k.below hS' k.lt).cell (i := 0) rfl
    have m1 := (k.below hS' k.lt).cell (i := 1) rfl
    have m2 := (k.below hS' k.lt).cell (i := 2) rfl
    go_simp
    rfl
  simp only [List.setIfInBounds_toArray, List.set_cons_zero, List.set_cons_succ]
  refine take_op 4 (v := ?rv4) rfl (by kernel_rfl) (fun _ _ _ h => h) (by rfl) hS (fun w' hS' => ?ry4) ?rz4
  case ry4 =>
    go_simp
    try go_ints
    rfl
  simp only [List.setIfInBounds_toArray, List.set_cons_zero, List.set_cons_succ]
  refine take_op 6 (v := ?rv6) rfl (by kernel_rfl) (fun _ _ _ h => h) (by rfl) hS (fun w' hS' => ?ry6) ?rz6
  case ry6 =>
    go_simp
    rfl
  simp only [List.setIfInBounds_toArray, List.set_cons_zero, List.set_cons_succ]
  refine take_op 7 (v := ?rv7) rfl (by kernel_rfl) (fun _ _ _ h => h) (by rfl) hS (fun w' hS' => ?ry7) ?rz7
  case ry7 =>
    go_simp
    rfl
  simp only [List.setIfInBounds_toArray, List.set_cons_zero, List.set_cons_succ]
  refine take_op 8 (v := ?rv8) rfl (by kernel_rfl) (fun _ _ _ h => h) (by rfl) hS (fun w' hS' => ?ry8) ?rz8
  case ry8 =>
    have m0 := (k.below hS' k.lt).cell (i := 0) rfl
    have m1 := (k.below hS' k.lt).cell (i := 1) rfl
    have m2 := (k.below hS' k.lt).cell (i := 2) rfl
    go_simp
    rfl
  simp only [List.setIfInBounds_toArray, List.set_cons_zero, List.set_cons_succ]
  refine take_op 9 (v := ?rv9) rfl (by kernel_rfl) (fun _ _ _ h => h) (by rfl) hS (fun w' hS' => ?ry9) ?rz9
  case ry9 =>
    go_simp
    try go_ints
    rfl
  simp only [List.setIfInBounds_toArray, List.set_cons_zero, List.set_cons_succ]
  refine step_op 5 (by kernel_rfl) rfl (fun K hK => ?_)
  rw [if_pos (by rfl)]
  go_simp
  refine (into_any x 0 (iw - 1) _).mono ?_
  rintro e V1 ⟨rfl, rfl⟩
  refine hK.out _ _ (fun h => hS) ?_
  clear hK K
  try simp only [Act.put, List.setIfInBounds_toArray, List.set_cons_zero, List.set_cons_succ]
  refine step_op 10 (by kernel_rfl) rfl (fun K hK => ?_)
  rw [if_pos (by rfl)]
  go_simp
  refine (into_any y 0 (ih - 1) _).mono ?_
  rintro e V1 ⟨rfl, rfl⟩
  refine hK.out _ _ (fun h => hS) ?_
  clear hK K
  try simp only [Act.put, List.setIfInBounds_toArray, List.set_cons_zero, List.set_cons_succ]
  refine step_op 11 (by kernel_rfl) rfl (fun K hK => ?_)
  rw [if_pos (by rfl)]
  go_simp
  refine (at_any iw ih _ _ a c xs n hn _ (Int.le_trans (by decide) q1) (Int.le_trans (Int.le_of_lt q4) (by omega)) q2 q3 (by omega) ((hr.below (Nat.le_refl _) hBd).mono hBd.size)).mono ?_
  rintro e V2 ⟨rfl, hb2⟩
  rw [hres2.out]
  have hS2 : Below W.heap.size W V2 := hS.trans (hb2.mono hS.size)
  refine hK.out _ _ (fun h => hS2) ?_
  clear hK K
  try simp only [Act.put, List.setIfInBounds_toArray, List.set_cons_zero, List.set_cons_succ]
  refine take_op 12 (v := ?rv12) rfl (by kernel_rfl) (fun _ _ _ h => h) (by rfl) hS2 (fun w' hS' => ?ry12) ?rz12
  case ry12 =>
    go_simp
    rfl
  simp only [List.setIfInBounds_toArray, List.set_cons_zero, List.set_cons_succ]
  refine done_ops (by kernel_rfl) ?_
  go_wp2_with fail
  go_ret
  exact ⟨rfl, hB0.trans (hS2.mono hB0.size)⟩

theorem tmod_small (x : Int) {m : Int} (h1 : 1 ≤ m) (h2 : m ≤ 16) : -16 ≤ x.tmod m ∧ x.tmod m ≤ 16 := by
  have h3 : x.tmod m = x % m ∨ x.tmod m = x % m - m := by
    rw [Int.tmod_eq_emod]
    split
    · left; omega
    · right; omega
  have h4 := Int.emod_nonneg x (show m ≠ 0 by omega)
  have h5 := Int.emod_lt_of_pos x (show 0 < m by omega)
  omega

set_option maxRecDepth 100000 in
set_option maxHeartbeats 2000000 in
theorem wrap_any (iw ih : Int) (a : Option Addr) (c n : Nat) (xs : List Int) (hn : Hid (xs.length = n)) (x y : Int) (w : World) (hi1 : 1 ≤ iw) (hi2 : iw ≤ 16) (hi3 : 1 ≤ ih) (hi4 : ih ≤ 16) (hnn : Hid ((n : Int) = iw * ih)) (hx1 : -100 ≤ x) (hx2 : x ≤ 100) (hy1 : -100 ≤ y) (hy2 : y ≤ 100) (r : Int) (hres : Hid (beyF 3 iw ih xs x y = r)) (hr : Rd w.heap.size w a xs) :
    Calls Try.prog 130 #[imv iw ih a n c, .int .i64 x, .int .i64 y] w fun e w' => e = .returned (.int .i64 r) ∧ Below w.heap.size w w' := by
  have hn9 : n ≤ 256 := by
    have := hnn.out
    obtain ⟨m1, m2⟩ := mul_small (a := iw) (b := ih) (m := 16) (n := 16) (by omega) (by omega) (by omega) (by omega)
    omega
  have hB0 : Below w.heap.size w (w.alloc (.cells #[.int .i64 iw, .int .i64 ih, .slice a n c] 100)) := below_al (Below.refl _ _) _
  have k := Blk.new w 100 #[.int .i64 iw, .int .i64 ih, .slice a n c]
  obtain ⟨W, hW⟩ : ∃ W, w.alloc (.cells #[.int .i64 iw, .int .i64 ih, .slice a n c] 100) = W := ⟨_, rfl⟩
  rw [hW] at hB0 k
  obtain ⟨X, hX⟩ : ∃ X, x % iw = X := ⟨_, rfl⟩
  obtain ⟨Y, hY⟩ : ∃ Y, y % ih = Y := ⟨_, rfl⟩
  have eX := rest_emod x iw hi1
  have eY := rest_emod y ih hi3
  rw [hX] at eX
  rw [hY] at eY
  have bX : 0 ≤ X ∧ X ≤ iw - 1 := by
    have h1 := Int.emod_nonneg x (show iw ≠ 0 by omega)
    have h2 := Int.emod_lt_of_pos x (show 0 < iw by omega)
    omega
  have bY : 0 ≤ Y ∧ Y ≤ ih - 1 := by
    have h1 := Int.emod_nonneg y (show ih ≠ 0 by omega)
    have h2 := Int.emod_lt_of_pos y (show 0 < ih by omega)
    omega
  have tX : -16 ≤ x.tmod iw ∧ x.tmod iw ≤ 16 := tmod_small x (by omega) (by omega)
  have tY : -16 ≤ y.tmod ih ∧ y.tmod ih ≤ 16 := tmod_small y (by omega) (by omega)
  obtain ⟨q1, q2, q3, q4⟩ := in_idx (iw := iw) (ih := ih) (u := X) (v := Y) hi1 hnn.out bX.1 bX.2 bY.1 bY.2
  have hres2 := Lib.hid (show px xs (Y * iw + X) = r by rw [← hres.out, beyF_3, hX, hY])
  have nw : iw ≠ 0 := by omega
  have nh : ih ≠ 0 := by omega
  clear hX hY
  have hS : Below W.heap.size W W.drew := (Below.refl _ _).drew
  have hBd : Below w.heap.size w W.drew := hB0.trans (hS.mono hB0.size)
  go_enter Try.func130, Try.ntmps130
  go_wp2_with fail
  clear hW
  refine plain_region (fun W' => Below W.heap.size W W') 23 23 (by kernel_rfl) rfl ?_
  simp only [Array.replicate_succ, Array.replicate_zero, List.push_toArray, List.nil_append, List.cons_append]
  refine take_op 0 (v := ?rv0) rfl (by kernel_rfl) (fun _ _ _ h => h) (by rfl) hS (fun w' hS' => ?ry0) ?rz0
  case ry0 =>
    have m0 := (k.below hS' k.lt).cell (i := 0) rfl
    have m1 := (k.below hS' k.lt).cell (i := 1) rfl
    have m2 := (k.below hS' k.lt).cell (i := 2) rfl
    go_simp
    rfl
  simp only [List.setIfInBounds_toArray, List.set_cons_zero, List.set_cons_succ]
  refine take_op 1 (v := ?rv1) rfl (by kernel_rfl) (fun _ _ _ h => h) (by rfl) hS (fun w' hS' => ?ry1) ?rz1
  case ry1 =>
    go_simp
    rfl
  simp only [List.setIfInBounds_toArray, List.set_cons_zero, List.set_cons_succ]
  refine take_op 2 (v := ?rv2) rfl (by kernel_rfl) (fun _ _ _ h => h) (by rfl) hS (fun w' hS' => ?ry2) ?rz2
  case ry2 =>
    go_simp
    rfl
  simp only [List.setIfInBounds_toArray, List.set_cons_zero, List.set_cons_succ]
  refine take_op 3 (v := ?rv3) rfl (by kernel_rfl) (fun _ _ _ h => h) (by rfl) hS (fun w' hS' => ?ry3) ?rz3
  case ry3 =>
    have m0 := (k.below hS' k.lt).cell (i := 0) rfl
    have m1 := (k.below hS' k.lt).cell (i := 1) rfl
    have m2 := (k.below hS' k.lt).cell (i := 2) rfl
    go_simp
    rfl
  simp only [List.setIfInBounds_toArray, List.set_cons_zero, List.set_cons_succ]
  refine take_op 4 (v := ?rv4) rfl (by kernel_rfl) (fun _ _ _ h => h) (by rfl) hS (fun w' hS' => ?ry4) ?rz4
  case ry4 =>
    go_simp
    try go_ints
    rfl
  simp only [List.setIfInBounds_toArray, List.set_cons_zero, List.set_cons_succ]
  refine take_op 5 (v := ?rv5) rfl (by kernel_rfl) (fun _ _ _ h => h) (by rfl) hS (fun w' hS' => ?ry5) ?rz5
  case ry5 =>
    go_simp
    rfl
  simp only [List.setIfInBounds_toArray, List.set_cons_zero, List.set_cons_succ]
  refine take_op 6 (v := ?rv6) rfl (by kernel_rfl) (fun _ _ _ h => h) (by rfl) hS (fun w' hS' => ?ry6) ?rz6
  case ry6 =>
    have m0 := (k.below hS' k.lt).cell (i := 0) rfl
    have m1 := (k.below hS' k.lt).cell (i := 1) rfl
    have m2 := (k.below hS' k.lt).cell (i := 2) rfl
    go_simp
    rfl
  simp only [List.setIfInBounds_toArray, List.set_cons_zero, List.set_cons_succ]
  refine take_op 7 (v := ?rv7) rfl (by kernel_rfl) (fun _ _ _ h => h) (by rfl) hS (fun w' hS' => ?ry7) ?rz7
  case ry7 =>
    go_simp
    try go_ints
    rfl
  simp only [List.setIfInBounds_toArray, List.set_cons_zero, List.set_cons_succ]
  refine take_op 8 (v := ?rv8) rfl (by kernel_rfl) (fun _ _ _ h => h) (by rfl) hS (fun w' hS' => ?ry8) ?rz8
  case ry8 =>
    go_simp
    rfl
  simp only [List.setIfInBounds_toArray, List.set_cons_zero, List.set_cons_succ]
  refine take_op 9 (v := ?rv9) rfl (by kernel_rfl) (fun _ _ _ h => h) (by rfl) hS (fun w' hS' => ?ry9) ?rz9
  case ry9 =>
    have m0 := (k.below hS' k.lt).cell (i := 0) rfl
    have m1 := (k.below hS' k.lt).cell (i := 1) rfl
    have m2 := (k.below hS' k.lt).cell (i := 2) rfl
    go_simp
    rfl
  simp only [List.setIfInBounds_toArray, List.set_cons_zero, List.set_cons_succ]
  refine take_op 10 (v := ?rv10) rfl (by kernel_rfl) (fun _ _ _ h => h) (by rfl) hS (fun w' hS' => ?ry10) ?rz10
  case ry10 =>
    go_simp
    try go_ints
    rfl
  simp only [List.setIfInBounds_toArray, List.set_cons_zero, List.set_cons_succ]
  refine take_op 11 (v := ?rv11) rfl (by kernel_rfl) (fun _ _ _ h => h) (by rfl) hS (fun w' hS' => ?ry11) ?rz11
  case ry11 =>
    go_simp
    rfl
  simp only [List.setIfInBounds_toArray, List.set_cons_zero, List.set_cons_succ]
  refine take_op 12 (v := ?rv12) rfl (by kernel_rfl) (fun _ _ _ h => h) (by rfl) hS (fun w' hS' => ?ry12) ?rz12
  case ry12 =>
    go_simp
    rfl
  simp only [List.setIfInBounds_toArray, List.set_cons_zero, List.set_cons_succ]
  refine take_op 13 (v := ?rv13) rfl (by kernel_rfl) (fun _ _ _ h => h) (by rfl) hS (fun w' hS' => ?ry13) ?rz13
  case ry13 =>
    have m0 := (k.below hS' k.lt).cell (i := 0) rfl
    have m1 := (k.below hS' k.lt).cell (i := 1) rfl
    have m2 := (k.below hS' k.lt).cell (i := 2) rfl
    go_simp
    rfl
  simp only [List.setIfInBounds_toArray, List.set_cons_zero, List.set_cons_succ]
  refine take_op 14 (v := ?rv14) rfl (by kernel_rfl) (fun _ _ _ h => h) (by rfl) hS (fun w' hS' => ?ry14) ?rz14
  case ry14 =>
    go_simp
    try go_ints
    rfl
  simp only [List.setIfInBounds_toArray, List.set_cons_zero, List.set_cons_succ]
  refine take_op 15 (v := ?rv15) rfl (by kernel_rfl) (fun _ _ _ h => h) (by rfl) hS (fun w' hS' => ?ry15) ?rz15
  case ry15 =>
    go_simp
    rfl
  simp only [List.setIfInBounds_toArray, List.set_cons_zero, List.set_cons_succ]
  refine take_op 16 (v := ?rv16) rfl (by kernel_rfl) (fun _ _ _ h => h) (by rfl) hS (fun w' hS' => ?ry16) ?rz16
  case ry16 =>
    have m0 := (k.below hS' k.lt).cell (i := 0) rfl
    have m1 := (k.below hS' k.lt).cell (i := 1) rfl
    have m2 := (k.below hS' k.lt).cell (i := 2) rfl
    go_simp
    rfl
  simp only [List.setIfInBounds_toArray, List.set_cons_zero, List.set_cons_succ]
  refine take_op 17 (v := ?rv17) rfl (by kernel_rfl) (fun _ _ _ h => h) (by rfl) hS (fun w' hS' => ?ry17) ?rz17
  case ry17 =>
    go_simp
    try go_ints
    rfl
  simp only [List.setIfInBounds_toArray, List.set_cons_zero, List.set_cons_succ]
  refine take_op 18 (v := ?rv18) rfl (by kernel_rfl) (fun _ _ _ h => h) (by rfl) hS (fun w' hS' => ?ry18) ?rz18
  case ry18 =>
    go_simp
    rfl
  simp only [List.setIfInBounds_toArray, List.set_cons_zero, List.set_cons_succ]
  refine take_op 19 (v := ?rv19) rfl (by kernel_rfl) (fun _ _ _ h => h) (by rfl) hS (fun w' hS' => ?ry19) ?rz19
  case ry19 =>
    have m0 := (k.below hS' k.lt).cell (i := 0) rfl
    have m1 := (k.below hS' k.lt).cell (i := 1) rfl
    have m2 := (k.below hS' k.lt).cell (i := 2) rfl
    go_simp
    rfl
  simp only [List.setIfInBounds_toArray, List.set_cons_zero, List.set_cons_succ]
  refine take_op 20 (v := ?rv20) rfl (by kernel_rfl) (fun _ _ _ h => h) (by rfl) hS (fun w' hS' => ?ry20) ?rz20
  case ry20 =>
    go_simp
    try go_ints
    rfl
  simp only [List.setIfInBounds_toArray, List.set_cons_zero, List.set_cons_succ]
  refine step_op 21 (by kernel_rfl) rfl (fun K hK => ?_)
  rw [if_pos (by rfl)]
  go_simp
  refine (at_any iw ih X Y a c xs n hn _ (Int.le_trans (by decide) q1) (Int.le_trans (Int.le_of_lt q4) (by omega)) q2 q3 (by omega) ((hr.below (Nat.le_refl _) hBd).mono hBd.size)).mono ?_
  rintro e V2 ⟨rfl, hb2⟩
  rw [hres2.out]
  have hS2 : Below W.heap.size W V2 := hS.trans (hb2.mono hS.size)
  refine hK.out _ _ (fun h => hS2) ?_
  clear hK K
  try simp only [Act.put, List.setIfInBounds_toArray, List.set_cons_zero, List.set_cons_succ]
  refine take_op 22 (v := ?rv22) rfl (by kernel_rfl) (fun _ _ _ h => h) (by rfl) hS2 (fun w' hS' => ?ry22) ?rz22
  case ry22 =>
    go_simp
    rfl
  simp only [List.setIfInBounds_toArray, List.set_cons_zero, List.set_cons_succ]
  refine done_ops (by kernel_rfl) ?_
  go_wp2_with fail
  go_ret
  exact ⟨rfl, hB0.trans (hS2.mono hB0.size)⟩

set_option maxHeartbeats 1000000 in
theorem rest_any (x m r : Int) (h1 : 1 ≤ m) (h2 : m ≤ 16) (hres : Hid (x % m = r)) (w : World) :
    Calls Try.prog 137 #[.int .i64 x, .int .i64 m] w fun e w' => e = .returned (.int .i64 r) ∧ w = w' := by
  have e := rest_emod x m h1
  rw [hres.out] at e
  have t := tmod_small x h1 h2
  have nm : m ≠ 0 := by omega
  go_enter Try.func137, Try.ntmps137
  go_wp2_with fail
  go_ret
  exact ⟨rfl, rfl⟩

set_option maxRecDepth 100000 in
set_option maxHeartbeats 2000000 in
theorem Beyond_any (bd : Int) (hbd1 : 1 ≤ bd) (hbd2 : bd ≤ 3) (iw ih : Int) (a : Option Addr) (c n : Nat) (xs : List Int) (hn : Hid (xs.length = n)) (x y : Int) (w : World) (hi1 : 1 ≤ iw) (hi2 : iw ≤ 16) (hi3 : 1 ≤ ih) (hi4 : ih ≤ 16) (hnn : Hid ((n : Int) = iw * ih)) (hx1 : -100 ≤ x) (hx2 : x ≤ 100) (hy1 : -100 ≤ y) (hy2 : y ≤ 100) (r : Int) (hres : Hid (beyF bd iw ih xs x y = r)) (hr : Rd w.heap.size w a xs) :
    Calls Try.prog 132 #[imv iw ih a n c, .int .u8 bd, .int .i64 x, .int .i64 y] w fun e w' => e = .returned (.int .i64 r) ∧ Below w.heap.size w w' := by
  have hn9 : n ≤ 256 := by
    have := hnn.out
    obtain ⟨m1, m2⟩ := mul_small (a := iw) (b := ih) (m := 16) (n := 16) (by omega) (by omega) (by omega) (by omega)
    omega
  have hB0 : Below w.heap.size w (w.alloc (.cells #[.int .i64 iw, .int .i64 ih, .slice a n c] 24)) := below_al (Below.refl _ _) _
  have k := Blk.new w 24 #[.int .i64 iw, .int .i64 ih, .slice a n c]
  obtain ⟨W, hW⟩ : ∃ W, w.alloc (.cells #[.int .i64 iw, .int .i64 ih, .slice a n c] 24) = W := ⟨_, rfl⟩
  rw [hW] at hB0 k
  obtain ⟨γ, hγ⟩ : ∃ γ, (inR x 0 (iw - 1) && inR y 0 (ih - 1)) = γ := ⟨_, rfl⟩
  have m0 := k.cell (i := 0) rfl
  have m1 := k.cell (i := 1) rfl
  have m2 := k.cell (i := 2) rfl
  go_enter Try.func132, Try.ntmps132
  go_wp2_with fail
  clear hW
  refine (Inside_any iw ih x y (.slice a n c) W (by omega) (by omega) (by omega) (by omega) ⟨_, _, _, rfl⟩).mono ?_
  rintro e W1 ⟨rfl, hb⟩
  rw [hγ]
  replace k := k.below hb k.lt
  replace hB0 := hB0.trans (hb.mono hB0.size)
  clear m0 m1 m2 hb
  have m0 := k.cell (i := 0) rfl
  have m1 := k.cell (i := 1) rfl
  have m2 := k.cell (i := 2) rfl
  cases γ with
  | true =>
    have hres2 := Lib.hid ((beyF_in hγ).symm.trans hres.out)
    simp only [Bool.and_eq_true, inR_true] at hγ
    obtain ⟨⟨g1, g2⟩, g3, g4⟩ := hγ
    obtain ⟨q1, q2, q3, q4⟩ := in_idx (iw := iw) (ih := ih) (u := x) (v := y) hi1 hnn.out g1 g2 g3 g4
    go_wp2_with fail
    refine (At_any iw ih x y a c xs n hn _ (Int.le_trans (by decide) q1) (Int.le_trans (Int.le_of_lt q4) (by omega)) q2 q3 (by omega) ((hr.below (Nat.le_refl _) hB0).mono hB0.size)).mono ?_
    rintro e W2 ⟨rfl, hb2⟩
    rw [hres2.out]
    go_wp2_with fail
    go_ret
    exact ⟨rfl, hB0.trans (hb2.mono hB0.size)⟩
  | false =>
    have hbd : bd = 1 ∨ bd = 2 ∨ bd = 3 := by omega
    clear hbd1 hbd2
    rcases hbd with rfl | rfl | rfl
    · have hres2 := Lib.hid ((beyF_out1 hγ).symm.trans hres.out)
      go_wp2_with fail
      go_ret
      exact ⟨ret_int hres2.out, hB0⟩
    · clear hγ
      obtain ⟨cx1, cx2⟩ := clamp_le (n := x) (lo := 0) (hi := iw - 1) (by omega)
      obtain ⟨cy1, cy2⟩ := clamp_le (n := y) (lo := 0) (hi := ih - 1) (by omega)
      obtain ⟨q1, q2, q3, q4⟩ := in_idx (iw := iw) (ih := ih) (u := clamp x 0 (iw - 1)) (v := clamp y 0 (ih - 1)) hi1 hnn.out cx1 cx2 cy1 cy2
      have hres2 := Lib.hid ((beyF_2 iw ih xs x y).symm.trans hres.out)
      have hS : Below W1.heap.size W1 W1.drew := (Below.refl _ _).drew
      have hBd : Below w.heap.size w W1.drew := hB0.trans (hS.mono hB0.size)
      go_wp2_with fail
      refine plain_region (fun W' => Below W1.heap.size W1 W') 13 13 (by kernel_rfl) rfl ?_
      simp only [Array.replicate_succ, Array.replicate_zero, List.push_toArray, List.nil_append, List.cons_append]
      refine take_op 0 (v := ?rv0) rfl (by kernel_rfl) (fun _ _ _ h => h) (by rfl) hS (fun w' hS' => ?ry0) ?rz0
      case ry0 =>
        have m0 := (k.below hS' k.lt).cell (i := 0) rfl
        have m1 := (k.below hS' k.lt).cell (i := 1) rfl
        have m2 := (k.below hS' k.lt).cell (i := 2) rfl
        go_simp
        rfl
      simp only [List.setIfInBounds_toArray, List.set_cons_zero, List.set_cons_succ]
      refine take_op 1 (v := ?rv1) rfl (by kernel_rfl) (fun _ _ _ h => h) (by rfl) hS (fun w' hS' => ?ry1) ?rz1
      case ry1 =>
        go_simp
        rfl
      simp only [List.setIfInBounds_toArray, List.set_cons_zero, List.set_cons_succ]
      refine take_op 2 (v := ?rv2) rfl (by kernel_rfl) (fun _ _ _ h => h) (by rfl) hS (fun w' hS' => ?ry2) ?rz2
      case ry2 =>
        go_simp
        rfl
      simp only [List.setIfInBounds_toArray, List.set_cons_zero, List.set_cons_succ]
      refine take_op 3 (v := ?rv3) rfl (by kernel_rfl) (fun _ _ _ h => h) (by rfl) hS (fun w' hS' => ?ry3) ?rz3
      case ry3 =>
        have m0 := (k.below hS' k.lt).cell (i := 0) rfl
        have m1 := (k.below hS' k.lt).cell (i := 1) rfl
        have m2 := (k.below hS' k.lt).cell (i := 2) rfl
        go_simp
        rfl
      simp only [List.setIfInBounds_toArray, List.set_cons_zero, List.set_cons_succ]
      refine take_op 4 (v := ?rv4) rfl (by kernel_rfl) (fun _ _ _ h => h) (by rfl) hS (fun w' hS' => ?ry4) ?rz4
      case ry4 =>
        go_simp
        try go_ints
        rfl
      simp only [List.setIfInBounds_toArray, List.set_cons_zero, List.set_cons_succ]
      refine take_op 6 (v := ?rv6) rfl (by kernel_rfl) (fun _ _ _ h => h) (by rfl) hS (fun w' hS' => ?ry6) ?rz6
      case ry6 =>
        go_simp
        rfl
      simp only [List.setIfInBounds_toArray, List.set_cons_zero, List.set_cons_succ]
      refine take_op 7 (v := ?rv7) rfl (by kernel_rfl) (fun _ _ _ h => h) (by rfl) hS (fun w' hS' => ?ry7) ?rz7
      case ry7 =>
        go_simp
        rfl
      simp only [List.setIfInBounds_toArray, List.set_cons_zero, List.set_cons_succ]
      refine take_op 8 (v := ?rv8) rfl (by kernel_rfl) (fun _ _ _ h => h) (by rfl) hS (fun w' hS' => ?ry8) ?rz8
      case ry8 =>
        have m0 := (k.below hS' k.lt).cell (i := 0) rfl
        have m1 := (k.below hS' k.lt).cell (i := 1) rfl
        have m2 := (k.below hS' k.lt).cell (i := 2) rfl
        go_simp
        rfl
      simp only [List.setIfInBounds_toArray, List.set_cons_zero, List.set_cons_succ]
      refine take_op 9 (v := ?rv9) rfl (by kernel_rfl) (fun _ _ _ h => h) (by rfl) hS (fun w' hS' => ?ry9) ?rz9
      case ry9 =>
        go_simp
        try go_ints
        rfl
      simp only [List.setIfInBounds_toArray, List.set_cons_zero, List.set_cons_succ]
      refine step_op 5 (by kernel_rfl) rfl (fun K hK => ?_)
      rw [if_pos (by rfl)]
      go_simp
      refine (Into_any x 0 (iw - 1) _).mono ?_
      rintro e V1 ⟨rfl, rfl⟩
      refine hK.out _ _ (fun h => hS) ?_
      clear hK K
      try simp only [Act.put, List.setIfInBounds_toArray, List.set_cons_zero, List.set_cons_succ]
      refine step_op 10 (by kernel_rfl) rfl (fun K hK => ?_)
      rw [if_pos (by rfl)]
      go_simp
      refine (Into_any y 0 (ih - 1) _).mono ?_
      rintro e V1 ⟨rfl, rfl⟩
      refine hK.out _ _ (fun h => hS) ?_
      clear hK K
      try simp only [Act.put, List.setIfInBounds_toArray, List.set_cons_zero, List.set_cons_succ]
      refine step_op 11 (by kernel_rfl) rfl (fun K hK => ?_)
      rw [if_pos (by rfl)]
      go_simp
      refine (At_any iw ih _ _ a c xs n hn _ (Int.le_trans (by decide) q1) (Int.le_trans (Int.le_of_lt q4) (by omega)) q2 q3 (by omega) ((hr.below (Nat.le_refl _) hBd).mono hBd.size)).mono ?_
      rintro e V2 ⟨rfl, hb2⟩
      rw [hres2.out]
      have hS2 : Below W1.heap.size W1 V2 := hS.trans (hb2.mono hS.size)
      refine hK.out _ _ (fun h => hS2) ?_
      clear hK K
      try simp only [Act.put, List.setIfInBounds_toArray, List.set_cons_zero, List.set_cons_succ]
      refine take_op 12 (v := ?rv12) rfl (by kernel_rfl) (fun _ _ _ h => h) (by rfl) hS2 (fun w' hS' => ?ry12) ?rz12
      case ry12 =>
        go_simp
        rfl
      simp only [List.setIfInBounds_toArray, List.set_cons_zero, List.set_cons_succ]
      refine done_ops (by kernel_rfl) ?_
      go_wp2_with fail
      go_ret
      exact ⟨rfl, hB0.trans (hS2.mono hB0.size)⟩
    · clear hγ
      obtain ⟨X, hX⟩ : ∃ X, x % iw = X := ⟨_, rfl⟩
      obtain ⟨Y, hY⟩ : ∃ Y, y % ih = Y := ⟨_, rfl⟩
      have eX := rest_emod x iw hi1
      have eY := rest_emod y ih hi3
      rw [hX] at eX
      rw [hY] at eY
      have bX : 0 ≤ X ∧ X ≤ iw - 1 := by
        have h1 := Int.emod_nonneg x (show iw ≠ 0 by omega)
        have h2 := Int.emod_lt_of_pos x (show 0 < iw by omega)
        omega
      have bY : 0 ≤ Y ∧ Y ≤ ih - 1 := by
        have h1 := Int.emod_nonneg y (show ih ≠ 0 by omega)
        have h2 := Int.emod_lt_of_pos y (show 0 < ih by omega)
        omega
      have tX : -16 ≤ x.tmod iw ∧ x.tmod iw ≤ 16 := tmod_small x (by omega) (by omega)
      have tY : -16 ≤ y.tmod ih ∧ y.tmod ih ≤ 16 := tmod_small y (by omega) (by omega)
      obtain ⟨q1, q2, q3, q4⟩ := in_idx (iw := iw) (ih := ih) (u := X) (v := Y) hi1 hnn.out bX.1 bX.2 bY.1 bY.2
      have hres2 := Lib.hid (show px xs (Y * iw + X) = r by rw [← hres.out, beyF_3, hX, hY])
      have nw : iw ≠ 0 := by omega
      have nh : ih ≠ 0 := by omega
      have hXH := Lib.hid hX
      have hYH := Lib.hid hY
      clear hX hY eX eY tX tY
      have hS : Below W1.heap.size W1 W1.drew := (Below.refl _ _).drew
      have hBd : Below w.heap.size w W1.drew := hB0.trans (hS.mono hB0.size)
      go_wp2_with fail
      refine plain_region (fun W' => Below W1.heap.size W1 W') 11 11 (by kernel_rfl) rfl ?_
      simp only [Array.replicate_succ, Array.replicate_zero, List.push_toArray, List.nil_append, List.cons_append]
      refine take_op 0 (v := ?uv0) rfl (by kernel_rfl) (fun _ _ _ h => h) (by rfl) hS (fun w' hS' => ?uy0) ?uz0
      case uy0 =>
        have m0 := (k.below hS' k.lt).cell (i := 0) rfl
        have m1 := (k.below hS' k.lt).cell (i := 1) rfl
        have m2 := (k.below hS' k.lt).cell (i := 2) rfl
        go_simp
        rfl
      simp only [List.setIfInBounds_toArray, List.set_cons_zero, List.set_cons_succ]
      refine take_op 1 (v := ?uv1) rfl (by kernel_rfl) (fun _ _ _ h => h) (by rfl) hS (fun w' hS' => ?uy1) ?uz1
      case uy1 =>
        go_simp
        rfl
      simp only [List.setIfInBounds_toArray, List.set_cons_zero, List.set_cons_succ]
      refine take_op 2 (v := ?uv2) rfl (by kernel_rfl) (fun _ _ _ h => h) (by rfl) hS (fun w' hS' => ?uy2) ?uz2
      case uy2 =>
        go_simp
        rfl
      simp only [List.setIfInBounds_toArray, List.set_cons_zero, List.set_cons_succ]
      refine take_op 3 (v := ?uv3) rfl (by kernel_rfl) (fun _ _ _ h => h) (by rfl) hS (fun w' hS' => ?uy3) ?uz3
      case uy3 =>
        have m0 := (k.below hS' k.lt).cell (i := 0) rfl
        have m1 := (k.below hS' k.lt).cell (i := 1) rfl
        have m2 := (k.below hS' k.lt).cell (i := 2) rfl
        go_simp
        rfl
      simp only [List.setIfInBounds_toArray, List.set_cons_zero, List.set_cons_succ]
      refine take_op 5 (v := ?uv5) rfl (by kernel_rfl) (fun _ _ _ h => h) (by rfl) hS (fun w' hS' => ?uy5) ?uz5
      case uy5 =>
        go_simp
        rfl
      simp only [List.setIfInBounds_toArray, List.set_cons_zero, List.set_cons_succ]
      refine take_op 6 (v := ?uv6) rfl (by kernel_rfl) (fun _ _ _ h => h) (by rfl) hS (fun w' hS' => ?uy6) ?uz6
      case uy6 =>
        go_simp
        rfl
      simp only [List.setIfInBounds_toArray, List.set_cons_zero, List.set_cons_succ]
      refine take_op 7 (v := ?uv7) rfl (by kernel_rfl) (fun _ _ _ h => h) (by rfl) hS (fun w' hS' => ?uy7) ?uz7
      case uy7 =>
        have m0 := (k.below hS' k.lt).cell (i := 0) rfl
        have m1 := (k.below hS' k.lt).cell (i := 1) rfl
        have m2 := (k.below hS' k.lt).cell (i := 2) rfl
        go_simp
        rfl
      simp only [List.setIfInBounds_toArray, List.set_cons_zero, List.set_cons_succ]
      refine step_op 4 (by kernel_rfl) rfl (fun K hK => ?_)
      rw [if_pos (by rfl)]
      go_simp
      refine (rest_any x iw X hi1 hi2 hXH _).mono ?_
      rintro e V1 ⟨rfl, rfl⟩
      refine hK.out _ _ (fun h => hS) ?_
      clear hK K
      try simp only [Act.put, List.setIfInBounds_toArray, List.set_cons_zero, List.set_cons_succ]
      refine step_op 8 (by kernel_rfl) rfl (fun K hK => ?_)
      rw [if_pos (by rfl)]
      go_simp
      refine (rest_any y ih Y hi3 hi4 hYH _).mono ?_
      rintro e V1 ⟨rfl, rfl⟩
      refine hK.out _ _ (fun h => hS) ?_
      clear hK K
      try simp only [Act.put, List.setIfInBounds_toArray, List.set_cons_zero, List.set_cons_succ]
      refine step_op 9 (by kernel_rfl) rfl (fun K hK => ?_)
      rw [if_pos (by rfl)]
      go_simp
      refine (At_any iw ih X Y a c xs n hn _ (Int.le_trans (by decide) q1) (Int.le_trans (Int.le_of_lt q4) (by omega)) q2 q3 (by omega) ((hr.below (Nat.le_refl _) hBd).mono hBd.size)).mono ?_
      rintro e V2 ⟨rfl, hb2⟩
      rw [hres2.out]
      have hS2 : Below W1.heap.size W1 V2 := hS.trans (hb2.mono hS.size)
      refine hK.out _ _ (fun h => hS2) ?_
      clear hK K
      try simp only [Act.put, List.setIfInBounds_toArray, List.set_cons_zero, List.set_cons_succ]
      refine take_op 10 (v := ?uv10) rfl (by kernel_rfl) (fun _ _ _ h => h) (by rfl) hS2 (fun w' hS' => ?uy10) ?uz10
      case uy10 =>
        go_simp
        rfl
      simp only [List.setIfInBounds_toArray, List.set_cons_zero, List.set_cons_succ]
      refine done_ops (by kernel_rfl) ?_
      go_wp2_with fail
      go_ret
      exact ⟨rfl, hB0.trans (hS2.mono hB0.size)⟩

/-- How the borders' functions are told in a map. -/
def fnR (v : Value) : Option (DataW Unit × List MemPlace) := match v with
  | .func (.func k) l m => if l = #[] ∧ m = #[] then some (.lit (.int .i64 k), []) else none
  | .nilFunc => some (.lit (.int .i64 (-1)), [])
  | _ => none
theorem fnR_func {v : Value} {k : Nat} {ps : List MemPlace} (h : fnR v = some (.lit (.int .i64 k), ps)) : v = .func (.func k) #[] #[] := by
  unfold fnR at h
  split at h
  · split at h
    · rename_i hc
      simp only [Option.some.injEq, Prod.mk.injEq, DataW.lit.injEq, Lit.int.injEq, true_and] at h
      obtain ⟨h1, _⟩ := h
      have : (_ : Nat) = k := Int.ofNat.inj h1
      rw [this, hc.1, hc.2]
    · simp at h
  · simp at h <;> omega
  · simp at h
theorem fnR_nil {v : Value} {ps : List MemPlace} (h : fnR v = some (.lit (.int .i64 (-1)), ps)) : v = .nilFunc := by
  unfold fnR at h
  split at h
  · split at h
    · simp at h <;> omega
    · simp at h
  · rfl
  · simp at h

/-- The function of a border. -/
def bordF (bd : Int) : Value := if bd = 1 then .func (.func 128) #[] #[] else if bd = 2 then .func (.func 129) #[] #[] else if bd = 3 then .func (.func 130) #[] #[] else .nilFunc

set_option maxRecDepth 100000 in
set_option maxHeartbeats 2000000 in
theorem border_any (bd : Int) (h1 : 0 ≤ bd) (h2 : bd ≤ 255) (r : Value) (hres : Hid (bordF bd = r)) (w : World) :
    Calls Try.prog 106 #[.int .u8 bd] w fun e w' => e = .returned r ∧ Below w.heap.size w w' := by
  have hmm := @run_makeMap Try.prog
  have K : Maps.Keyed Try.prog 5 := Maps.int_keyed Try.underlying5
  have key : ∀ k : Int, 0 ≤ k → k ≤ 255 → keyOf Try.prog 5 (.int .u8 k) = some (.int .u8 k) := fun k hk1 hk2 => Maps.keyOf_int_mk Try.underlying5 (by simp [Lit.wf, IntKind.min, IntKind.max, IntKind.signed, IntKind.bits]; omega)
  have m0 := World.ownsMap_made (H := Unit) w Try.prog 5 fnR
  obtain ⟨w1, r1, m1, g1⟩ := m0.update K Try.underlying136 (by unfold maxLen; omega) (key 1 (by omega) (by omega)) (val := .func (.func 128) #[] #[]) (d := .lit (.int .i64 (128 : Nat))) (ps := []) rfl
  obtain ⟨w2, r2, m2, g2⟩ := m1.update K Try.underlying136 (by unfold maxLen; omega) (key 2 (by omega) (by omega)) (val := .func (.func 129) #[] #[]) (d := .lit (.int .i64 (129 : Nat))) (ps := []) rfl
  obtain ⟨w3, r3, m3, g3⟩ := m2.update K Try.underlying136 (by unfold maxLen; omega) (key 3 (by omega) (by omega)) (val := .func (.func 130) #[] #[]) (d := .lit (.int .i64 (130 : Nat))) (ps := []) rfl
  obtain ⟨v, ps, r4, hv⟩ := m3.lookup K Try.underlying136 (z := .nilFunc) (zd := .lit (.int .i64 (-1))) (zp := []) (by kernel_rfl) rfl (key bd h1 h2)
  have hvr : v = r := by
    rw [← hres.out]
    unfold bordF
    by_cases c1 : bd = 1
    · subst c1; rw [if_pos rfl]; exact fnR_func hv
    · by_cases c2 : bd = 2
      · subst c2; rw [if_neg (by decide), if_pos rfl]; exact fnR_func hv
      · by_cases c3 : bd = 3
        · subst c3; rw [if_neg (by decide), if_neg (by decide), if_pos rfl]; exact fnR_func hv
        · rw [if_neg c1, if_neg c2, if_neg c3]
          refine fnR_nil (ps := ps) ?_
          rw [hv]
          simp [DataW.put, DataW.atKey, DataW.insert, Lit.before, Lit.sameKey, List.find?, c1, c2, c3, Ne.symm c1, Ne.symm c2, Ne.symm c3]
  rw [hvr] at r4
  have hb : Below w.heap.size w w3 := ((((below_al (Below.refl _ w) _).grown g1 (by simp) (fun k e => by cases e; exact Nat.le_refl _)).grown g2 (Nat.le_trans (by simp) g1.size) (fun k e => by cases e; exact Nat.le_refl _))).grown g3 (Nat.le_trans (Nat.le_trans (by simp) g1.size) g2.size) (fun k e => by cases e; exact Nat.le_refl _)
  clear hvr hv m0 m1 m2 m3 g1 g2 g3 key K
  go_enter Try.func106, Try.ntmps106
  go_wp2_with fail
  go_ret
  exact ⟨rfl, hb⟩

end Go.Proofs.Ytjglfeonoiljlaa
