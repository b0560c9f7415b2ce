/- Contracts and laws (ImgV, ImgW, PpL, PpR). -/
import Derived.Maps.Own
import Derived.Test.YtekiemlniegddaaQA5
import Derived.Test.YtekiemlniegddaaQA2
import Derived.Test.YtekiemlniegddaaQA3
import Derived.Test.YtekiemlniegddaaQA4
namespace Go.Proofs.Ytekiemlniegddaa
open Go Go.RowKit Go.Shelf
set_option linter.unusedVariables false
set_option linter.unusedSimpArgs false

/-- The value for any place, by a border. -/
def beyF (bd iw ih : Int) (xs : List Int) (x y : Int) : Int :=
  if bd = 1 then (if (inR x 0 (iw - 1) && inR y 0 (ih - 1)) = true then px xs (y * iw + x) else 0)
  else if bd = 2 then px xs (clamp y 0 (ih - 1) * iw + clamp x 0 (iw - 1)) else px xs (y % ih * iw + x % iw)

theorem beyF_in {bd iw ih : Int} {xs : List Int} {x y : Int} (h : (inR x 0 (iw - 1) && inR y 0 (ih - 1)) = true) : beyF bd iw ih xs x y = px xs (y * iw + x) := by
  unfold beyF
  rw [if_pos h]
  simp only [Bool.and_eq_true, inR_true] at h
  rw [show clamp x 0 (iw - 1) = x by unfold clamp; omega, show clamp y 0 (ih - 1) = y by unfold clamp; omega, Int.emod_eq_of_lt (by omega) (by omega), Int.emod_eq_of_lt (by omega) (by omega)]
  split
  · rfl
  · split <;> rfl
theorem beyF_out1 {iw ih : Int} {xs : List Int} {x y : Int} (h : (inR x 0 (iw - 1) && inR y 0 (ih - 1)) = false) : beyF 1 iw ih xs x y = 0 := by
  unfold beyF; rw [if_pos rfl, h]; rfl
theorem beyF_2 (iw ih : Int) (xs : List Int) (x y : Int) : beyF 2 iw ih xs x y = px xs (clamp y 0 (ih - 1) * iw + clamp x 0 (iw - 1)) := by unfold beyF; rw [if_neg (by decide), if_pos rfl]
theorem beyF_3 (iw ih : Int) (xs : List Int) (x y : Int) : beyF 3 iw ih xs x y = px xs (y % ih * iw + x % iw) := by unfold beyF; rw [if_neg (by decide), if_neg (by decide)]
theorem beyF_bd {xs : List Int} (h : allIn (-2147483648) 2147483648 xs = true) (bd iw ih x y : Int) : -2147483648 ≤ beyF bd iw ih xs x y ∧ beyF bd iw ih xs x y ≤ 2147483648 := by
  unfold beyF
  split
  · split
    · exact px_bd h _
    · omega
  · split <;> exact px_bd h _

set_option maxRecDepth 100000 in
set_option maxHeartbeats 2000000 in
theorem zero_any (iw ih : Int) (a : Option Addr) (c n : Nat) (xs : List Int) (hn : Hid (xs.length = n)) (x y : Int) (w : World) (hi1 : 1 ≤ iw) (hi2 : iw ≤ 16) (hi3 : 1 ≤ ih) (hi4 : ih ≤ 16) (hnn : Hid ((n : Int) = iw * ih)) (hx1 : -100 ≤ x) (hx2 : x ≤ 100) (hy1 : -100 ≤ y) (hy2 : y ≤ 100) (r : Int) (hres : Hid (beyF 1 iw ih xs x y = r)) (hr : Rd w.heap.size w a xs) :
    Calls Try.prog 142 #[imv iw ih a n c, .int .i64 x, .int .i64 y] w fun e w' => e = .returned (.int .i64 r) ∧ Below w.heap.size w w' := by
  have hn9 : n ≤ 256 := by
    have := hnn.out
    obtain ⟨m1, m2⟩ := mul_small (a := iw) (b := ih) (m := 16) (n := 16) (by omega) (by omega) (by omega) (by omega)
    omega
  have hB0 : Below w.heap.size w (w.alloc (.cells #[.int .i64 iw, .int .i64 ih, .slice a n c] 157)) := below_al (Below.refl _ _) _
  have k := Blk.new w 157 #[.int .i64 iw, .int .i64 ih, .slice a n c]
  obtain ⟨W, hW⟩ : ∃ W, w.alloc (.cells #[.int .i64 iw, .int .i64 ih, .slice a n c] 157) = W := ⟨_, rfl⟩
  rw [hW] at hB0 k
  obtain ⟨γ, hγ⟩ : ∃ γ, (inR x 0 (iw - 1) && inR y 0 (ih - 1)) = γ := ⟨_, rfl⟩
  have m0 := k.cell (i := 0) rfl
  have m1 := k.cell (i := 1) rfl
  have m2 := k.cell (i := 2) rfl
  go_enter Try.func142, Try.ntmps142
  go_wp2_with fail
  clear hW
  refine (inside_any iw ih x y (.slice a n c) W (by omega) (by omega) (by omega) (by omega) ⟨_, _, _, rfl⟩).mono ?_
  rintro e W1 ⟨rfl, hb⟩
  rw [hγ]
  replace k := k.below hb k.lt
  replace hB0 := hB0.trans (hb.mono hB0.size)
  clear m0 m1 m2 hb
  have m0 := k.cell (i := 0) rfl
  have m1 := k.cell (i := 1) rfl
  have m2 := k.cell (i := 2) rfl
  cases γ with
  | true =>
    have hres2 := Lib.hid ((beyF_in hγ).symm.trans hres.out)
    simp only [Bool.and_eq_true, inR_true] at hγ
    obtain ⟨⟨g1, g2⟩, g3, g4⟩ := hγ
    obtain ⟨q1, q2, q3, q4⟩ := in_idx (iw := iw) (ih := ih) (u := x) (v := y) hi1 hnn.out g1 g2 g3 g4
    go_wp2_with fail
    refine (at_any iw ih x y a c xs n hn _ (Int.le_trans (by decide) q1) (Int.le_trans (Int.le_of_lt q4) (by omega)) q2 q3 (by omega) ((hr.below (Nat.le_refl _) hB0).mono hB0.size)).mono ?_
    rintro e W2 ⟨rfl, hb2⟩
    rw [hres2.out]
    go_wp2_with fail
    go_ret
    exact ⟨rfl, hB0.trans (hb2.mono hB0.size)⟩
  | false =>
    have hres2 := Lib.hid ((beyF_out1 hγ).symm.trans hres.out)
    go_wp2_with fail
    go_ret
    exact ⟨ret_int hres2.out, hB0⟩

set_option maxRecDepth 100000 in
set_option maxHeartbeats 2000000 in
theorem near_any (iw ih : Int) (a : Option Addr) (c n : Nat) (xs : List Int) (hn : Hid (xs.length = n)) (x y : Int) (w : World) (hi1 : 1 ≤ iw) (hi2 : iw ≤ 16) (hi3 : 1 ≤ ih) (hi4 : ih ≤ 16) (hnn : Hid ((n : Int) = iw * ih)) (hx1 : -100 ≤ x) (hx2 : x ≤ 100) (hy1 : -100 ≤ y) (hy2 : y ≤ 100) (r : Int) (hres : Hid (beyF 2 iw ih xs x y = r)) (hr : Rd w.heap.size w a xs) :
    Calls Try.prog 143 #[imv iw ih a n c, .int .i64 x, .int .i64 y] w fun e w' => e = .returned (.int .i64 r) ∧ Below w.heap.size w w' := by
  have hn9 : n ≤ 256 := by
    have := hnn.out
    obtain ⟨m1, m2⟩ := mul_small (a := iw) (b := ih) (m := 16) (n := 16) (by omega) (by omega) (by omega) (by omega)
    omega
  have hB0 : Below w.heap.size w (w.alloc (.cells #[.int .i64 iw, .int .i64 ih, .slice a n c] 157)) := below_al (Below.refl _ _) _
  have k := Blk.new w 157 #[.int .i64 iw, .int .i64 ih, .slice a n c]
  obtain ⟨W, hW⟩ : ∃ W, w.alloc (.cells #[.int .i64 iw, .int .i64 ih, .slice a n c] 157) = W := ⟨_, rfl⟩
  rw [hW] at hB0 k
  obtain ⟨cx1, cx2⟩ := clamp_le (n := x) (lo := 0) (hi := iw - 1) (by omega)
  obtain ⟨cy1, cy2⟩ := clamp_le (n := y) (lo := 0) (hi := ih - 1) (by omega)
  obtain ⟨q1, q2, q3, q4⟩ := in_idx (iw := iw) (ih := ih) (u := clamp x 0 (iw - 1)) (v := clamp y 0 (ih - 1)) hi1 hnn.out cx1 cx2 cy1 cy2
  have hres2 := Lib.hid ((beyF_2 iw ih xs x y).symm.trans hres.out)
  have hS : Below W.heap.size W W.drew := (Below.refl _ _).drew
  have hBd : Below w.heap.size w W.drew := hB0.trans (hS.mono hB0.size)
  go_enter Try.func143, Try.ntmps143
  go_wp2_with fail
  clear hW
  refine plain_region (fun W' => Below W.heap.size W W') 13 13 (by kernel_rfl) rfl ?_
  simp only [Array.replicate_succ, Array.replicate_zero, List.push_toArray, List.nil_append, List.cons_append]
  refine take_op 0 (v := ?rv0) rfl (by kernel_rfl) (fun _ _ _ h => h) (by rfl) hS (fun w' hS' => ?ry0) ?rz0
  case ry0 =>
    have m0 := (k.below hS' k.lt).cell (i := 0) rfl
    have m1 := (k.below hS' k.lt).cell (i := 1) rfl
    have m2 := (k.below hS' k.lt).cell (i := 2) rfl
    go_simp
    rfl
  simp only [List.setIfInBounds_toArray, List.set_cons_zero, List.set_cons_succ]
  refine take_op 1 (v := ?rv1) rfl (by kernel_rfl) (fun _ _ _ h => h) (by rfl) hS (fun w' hS' => ?ry1) ?rz1
  case ry1 =>
    go_simp
    rfl
  simp only [List.setIfInBounds_toArray, List.set_cons_zero, List.set_cons_succ]
  refine take_op 2 (v := ?rv2) rfl (by kernel_rfl) (fun _ _ _ h => h) (by rfl) hS (fun w' hS' => ?ry2) ?rz2
  case ry2 =>
    go_simp
    rfl
  simp only [List.setIfInBounds_toArray, List.set_cons_zero, List.set_cons_succ]
  refine take_op 3 (v := ?rv3) rfl (by kernel_rfl) (fun _ _ _ h => h) (by rfl) hS (fun w' hS' => ?ry3) ?rz3
  case ry3 =>
    have m0 := (k.below hS' k.lt).cell (i := 0) rfl
    have m1 := (k.below hS' k.lt).cell (i := 1) rfl
    have m2 := (k.below hS' k.lt).cell (i := 2) rfl
    go_simp
    rfl
  simp only [List.setIfInBounds_toArray, List.set_cons_zero, List.set_cons_succ]
  refine take_op 4 (v := ?rv4) rfl (by kernel_rfl) (fun _ _ _ h => h) (by rfl) hS (fun w' hS' => ?ry4) ?rz4
  case ry4 =>
    go_simp
    try go_ints
    rfl
  simp only [List.setIfInBounds_toArray, List.set_cons_zero, List.set_cons_succ]
  refine take_op 6 (v := ?rv6) rfl (by kernel_rfl) (fun _ _ _ h => h) (by rfl) hS (fun w' hS' => ?ry6) ?rz6
  case ry6 =>
    go_simp
    rfl
  simp only [List.setIfInBounds_toArray, List.set_cons_zero, List.set_cons_succ]
  refine take_op 7 (v := ?rv7) rfl (by kernel_rfl) (fun _ _ _ h => h) (by rfl) hS (fun w' hS' => ?ry7) ?rz7
  case ry7 =>
    go_simp
    rfl
  simp only [List.setIfInBounds_toArray, List.set_cons_zero, List.set_cons_succ]
  refine take_op 8 (v := ?rv8) rfl (by kernel_rfl) (fun _ _ _ h => h) (by rfl) hS (fun w' hS' => ?ry8) ?rz8
  case ry8 =>
    have m0 := (k.below hS' k.lt).cell (i := 0) rfl
    have m1 := (k.below hS' k.lt).cell (i := 1) rfl
    have m2 := (k.below hS' k.lt).cell (i := 2) rfl
    go_simp
    rfl
  simp only [List.setIfInBounds_toArray, List.set_cons_zero, List.set_cons_succ]
  refine take_op 9 (v := ?rv9) rfl (by kernel_rfl) (fun _ _ _ h => h) (by rfl) hS (fun w' hS' => ?ry9) ?rz9
  case ry9 =>
    go_simp
    try go_ints
    rfl
  simp only [List.setIfInBounds_toArray, List.set_cons_zero, List.set_cons_succ]
  refine step_op 5 (by kernel_rfl) rfl (fun K hK => ?_)
  rw [if_pos (by rfl)]
  go_simp
  refine (into_any x 0 (iw - 1) _).mono ?_
  rintro e V1 ⟨rfl, rfl⟩
  refine hK.out _ _ (fun h => hS) ?_
  clear hK K
  try simp only [Act.put, List.setIfInBounds_toArray, List.set_cons_zero, List.set_cons_succ]
  refine step_op 10 (by kernel_rfl) rfl (fun K hK => ?_)
  rw [if_pos (by rfl)]
  go_simp
  refine (into_any y 0 (ih - 1) _).mono ?_
  rintro e V1 ⟨rfl, rfl⟩
  refine hK.out _ _ (fun h => hS) ?_
  clear hK K
  try simp only [Act.put, List.setIfInBounds_toArray, List.set_cons_zero, List.set_cons_succ]
  refine step_op 11 (by kernel_rfl) rfl (fun K hK => ?_)
  rw [if_pos (by rfl)]
  go_simp
  refine (at_any iw ih _ _ a c xs n hn _ (Int.le_trans (by decide) q1) (Int.le_trans (Int.le_of_lt q4) (by omega)) q2 q3 (by omega) ((hr.below (Nat.le_refl _) hBd).mono hBd.size)).mono ?_
  rintro e V2 ⟨rfl, hb2⟩
  rw [hres2.out]
  have hS2 : Below W.heap.size W V2 := hS.trans (hb2.mono hS.size)
  refine hK.out _ _ (fun h => hS2) ?_
  clear hK K
  try simp only [Act.put, List.setIfInBounds_toArray, List.set_cons_zero, List.set_cons_succ]
  refine take_op 12 (v := ?rv12) rfl (by kernel_rfl) (fun _ _ _ h => h) (by rfl) hS2 (fun w' hS' => ?ry12) ?rz12
  case ry12 =>
    go_simp
    rfl
  simp only [List.setIfInBounds_toArray, List.set_cons_zero, List.set_cons_succ]
  refine done_ops (by kernel_rfl) ?_
  go_wp2_with fail
  go_ret
  exact ⟨rfl, hB0.trans (hS2.mono hB0.size)⟩

theorem tmod_small (x : Int) {m : Int} (h1 : 1 ≤ m) (h2 : m ≤ 16) : -16 ≤ x.tmod m ∧ x.tmod m ≤ 16 := by
  have h3 : x.tmod m = x % m ∨ x.tmod m = x % m - m := by
    rw [Int.tmod_eq_emod]
    split
    · left; omega
    · right; omega
  have h4 := Int.emod_nonneg x (show m ≠ 0 by omega)
  have h5 := Int.emod_lt_of_pos x (show 0 < m by omega)
  omega

set_option maxRecDepth 100000 in
set_option maxHeartbeats 2000000 in
theorem wrap_any (iw ih : Int) (a : Option Addr) (c n : Nat) (xs : List Int) (hn : Hid (xs.length = n)) (x y : Int) (w : World) (hi1 : 1 ≤ iw) (hi2 : iw ≤ 16) (hi3 : 1 ≤ ih) (hi4 : ih ≤ 16) (hnn : Hid ((n : Int) = iw * ih)) (hx1 : -100 ≤ x) (hx2 : x ≤ 100) (hy1 : -100 ≤ y) (hy2 : y ≤ 100) (r : Int) (hres : Hid (beyF 3 iw ih xs x y = r)) (hr : Rd w.heap.size w a xs) :
    Calls Try.prog 144 #[imv iw ih a n c, .int .i64 x, .int .i64 y] w fun e w' => e = .returned (.int .i64 r) ∧ Below w.heap.size w w' := by
  have hn9 : n ≤ 256 := by
    have := hnn.out
    obtain ⟨m1, m2⟩ := mul_small (a := iw) (b := ih) (m := 16) (n := 16) (by omega) (by omega) (by omega) (by omega)
    omega
  have hB0 : Below w.heap.size w (w.alloc (.cells #[.int .i64 iw, .int .i64 ih, .slice a n c] 157)) := below_al (Below.refl _ _) _
  have k := Blk.new w 157 #[.int .i64 iw, .int .i64 ih, .slice a n c]
  obtain ⟨W, hW⟩ : ∃ W, w.alloc (.cells #[.int .i64 iw, .int .i64 ih, .slice a n c] 157) = W := ⟨_, rfl⟩
  rw [hW] at hB0 k
  obtain ⟨X, hX⟩ : ∃ X, x % iw = X := ⟨_, rfl⟩
  obtain ⟨Y, hY⟩ : ∃ Y, y % ih = Y := ⟨_, rfl⟩
  have eX := rest_emod x iw hi1
  have eY := rest_emod y ih hi3
  rw [hX] at eX
  rw [hY] at eY
  have bX : 0 ≤ X ∧ X ≤ iw - 1 := by
    have h1 := Int.emod_nonneg x (show iw ≠ 0 by omega)
    have h2 := Int.emod_lt_of_pos x (show 0 < iw by omega)
    omega
  have bY : 0 ≤ Y ∧ Y ≤ ih - 1 := by
    have h1 := Int.emod_nonneg y (show ih ≠ 0 by omega)
    have h2 := Int.emod_lt_of_pos y (show 0 < ih by omega)
    omega
  have tX : -16 ≤ x.tmod iw ∧ x.tmod iw ≤ 16 := tmod_small x (by omega) (by omega)
  have tY : -16 ≤ y.tmod ih ∧ y.tmod ih ≤ 16 := tmod_small y (by omega) (by omega)
  obtain ⟨q1, q2, q3, q4⟩ := in_idx (iw := iw) (ih := ih) (u := X) (v := Y) hi1 hnn.out bX.1 bX.2 bY.1 bY.2
  have hres2 := Lib.hid (show px xs (Y * iw + X) = r by rw [← hres.out, beyF_3, hX, hY])
  have nw : iw ≠ 0 := by omega
  have nh : ih ≠ 0 := by omega
  clear hX hY
  have hS : Below W.heap.size W W.drew := (Below.refl _ _).drew
  have hBd : Below w.heap.size w W.drew := hB0.trans (hS.mono hB0.size)
  go_enter Try.func144, Try.ntmps144
  go_wp2_with fail
  clear hW
  refine plain_region (fun W' => Below W.heap.size W W') 23 23 (by kernel_rfl) rfl ?_
  simp only [Array.replicate_succ, Array.replicate_zero, List.push_toArray, List.nil_append, List.cons_append]
  refine take_op 0 (v := ?rv0) rfl (by kernel_rfl) (fun _ _ _ h => h) (by rfl) hS (fun w' hS' => ?ry0) ?rz0
  case ry0 =>
    have m0 := (k.below hS' k.lt).cell (i := 0) rfl
    have m1 := (k.below hS' k.lt).cell (i := 1) rfl
    have m2 := (k.below hS' k.lt).cell (i := 2) rfl
    go_simp
    rfl
  simp only [List.setIfInBounds_toArray, List.set_cons_zero, List.set_cons_succ]
  refine take_op 1 (v := ?rv1) rfl (by kernel_rfl) (fun _ _ _ h => h) (by rfl) hS (fun w' hS' => ?ry1) ?rz1
  case ry1 =>
    go_simp
    rfl
  simp only [List.setIfInBounds_toArray, List.set_cons_zero, List.set_cons_succ]
  refine take_op 2 (v := ?rv2) rfl (by kernel_rfl) (fun _ _ _ h => h) (by rfl) hS (fun w' hS' => ?ry2) ?rz2
  case ry2 =>
    go_simp
    rfl
  simp only [List.setIfInBounds_toArray, List.set_cons_zero, List.set_cons_succ]
  refine take_op 3 (v := ?rv3) rfl (by kernel_rfl) (fun _ _ _ h => h) (by rfl) hS (fun w' hS' => ?ry3) ?rz3
  case ry3 =>
    have m0 := (k.below hS' k.lt).cell (i := 0) rfl
    have m1 := (k.below hS' k.lt).cell (i := 1) rfl
    have m2 := (k.below hS' k.lt).cell (i := 2) rfl
    go_simp
    rfl
  simp only [List.setIfInBounds_toArray, List.set_cons_zero, List.set_cons_succ]
  refine take_op 4 (v := ?rv4) rfl (by kernel_rfl) (fun _ _ _ h => h) (by rfl) hS (fun w' hS' => ?ry4) ?rz4
  case ry4 =>
    go_simp
    try go_ints
    rfl
  simp only [List.setIfInBounds_toArray, List.set_cons_zero, List.set_cons_succ]
  refine take_op 5 (v := ?rv5) rfl (by kernel_rfl) (fun _ _ _ h => h) (by rfl) hS (fun w' hS' => ?ry5) ?rz5
  case ry5 =>
    go_simp
    rfl
  simp only [List.setIfInBounds_toArray, List.set_cons_zero, List.set_cons_succ]
  refine take_op 6 (v := ?rv6) rfl (by kernel_rfl) (fun _ _ _ h => h) (by rfl) hS (fun w' hS' => ?ry6) ?rz6
  case ry6 =>
    have m0 := (k.below hS' k.lt).cell (i := 0) rfl
    have m1 := (k.below hS' k.lt).cell (i := 1) rfl
    have m2 := (k.below hS' k.lt).cell (i := 2) rfl
    go_simp
    rfl
  simp only [List.setIfInBounds_toArray, List.set_cons_zero, List.set_cons_succ]
  refine take_op 7 (v := ?rv7) rfl (by kernel_rfl) (fun _ _ _ h => h) (by rfl) hS (fun w' hS' => ?ry7) ?rz7
  case ry7 =>
    go_simp
    try go_ints
    rfl
  simp only [List.setIfInBounds_toArray, List.set_cons_zero, List.set_cons_succ]
  refine take_op 8 (v := ?rv8) rfl (by kernel_rfl) (fun _ _ _ h => h) (by rfl) hS (fun w' hS' => ?ry8) ?rz8
  case ry8 =>
    go_simp
    rfl
  simp only [List.setIfInBounds_toArray, List.set_cons_zero, List.set_cons_succ]
  refine take_op 9 (v := ?rv9) rfl (by kernel_rfl) (fun _ _ _ h => h) (by rfl) hS (fun w' hS' => ?ry9) ?rz9
  case ry9 =>
    have m0 := (k.below hS' k.lt).cell (i := 0) rfl
    have m1 := (k.below hS' k.lt).cell (i := 1) rfl
    have m2 := (k.below hS' k.lt).cell (i := 2) rfl
    go_simp
    rfl
  simp only [List.setIfInBounds_toArray, List.set_cons_zero, List.set_cons_succ]
  refine take_op 10 (v := ?rv10) rfl (by kernel_rfl) (fun _ _ _ h => h) (by rfl) hS (fun w' hS' => ?ry10) ?rz10
  case ry10 =>
    go_simp
    try go_ints
    rfl
  simp only [List.setIfInBounds_toArray, List.set_cons_zero, List.set_cons_succ]
  refine take_op 11 (v := ?rv11) rfl (by kernel_rfl) (fun _ _ _ h => h) (by rfl) hS (fun w' hS' => ?ry11) ?rz11
  case ry11 =>
    go_simp
    rfl
  simp only [List.setIfInBounds_toArray, List.set_cons_zero, List.set_cons_succ]
  refine take_op 12 (v := ?rv12) rfl (by kernel_rfl) (fun _ _ _ h => h) (by rfl) hS (fun w' hS' => ?ry12) ?rz12
  case ry12 =>
    go_simp
    rfl
  simp only [List.setIfInBounds_toArray, List.set_cons_zero, List.set_cons_succ]
  refine take_op 13 (v := ?rv13) rfl (by kernel_rfl) (fun _ _ _ h => h) (by rfl) hS (fun w' hS' => ?ry13) ?rz13
  case ry13 =>
    have m0 := (k.below hS' k.lt).cell (i := 0) rfl
    have m1 := (k.below hS' k.lt).cell (i := 1) rfl
    have m2 := (k.below hS' k.lt).cell (i := 2) rfl
    go_simp
    rfl
  simp only [List.setIfInBounds_toArray, List.set_cons_zero, List.set_cons_succ]
  refine take_op 14 (v := ?rv14) rfl (by kernel_rfl) (fun _ _ _ h => h) (by rfl) hS (fun w' hS' => ?ry14) ?rz14
  case ry14 =>
    go_simp
    try go_ints
    rfl
  simp only [List.setIfInBounds_toArray, List.set_cons_zero, List.set_cons_succ]
  refine take_op 15 (v := ?rv15) rfl (by kernel_rfl) (fun _ _ _ h => h) (by rfl) hS (fun w' hS' => ?ry15) ?rz15
  case ry15 =>
    go_simp
    rfl
  simp only [List.setIfInBounds_toArray, List.set_cons_zero, List.set_cons_succ]
  refine take_op 16 (v := ?rv16) rfl (by kernel_rfl) (fun _ _ _ h => h) (by rfl) hS (fun w' hS' => ?ry16) ?rz16
  case ry16 =>
    have m0 := (k.below hS' k.lt).cell (i := 0) rfl
    have m1 := (k.below hS' k.lt).cell (i := 1) rfl
    have m2 := (k.below hS' k.lt).cell (i := 2) rfl
    go_simp
    rfl
  simp only [List.setIfInBounds_toArray, List.set_cons_zero, List.set_cons_succ]
  refine take_op 17 (v := ?rv17) rfl (by kernel_rfl) (fun _ _ _ h => h) (by rfl) hS (fun w' hS' => ?ry17) ?rz17
  case ry17 =>
    go_simp
    try go_ints
    rfl
  simp only [List.setIfInBounds_toArray, List.set_cons_zero, List.set_cons_succ]
  refine take_op 18 (v := ?rv18) rfl (by kernel_rfl) (fun _ _ _ h => h) (by rfl) hS (fun w' hS' => ?ry18) ?rz18
  case ry18 =>
    go_simp
    rfl
  simp only [List.setIfInBounds_toArray, List.set_cons_zero, List.set_cons_succ]
  refine take_op 19 (v := ?rv19) rfl (by kernel_rfl) (fun _ _ _ h => h) (by rfl) hS (fun w' hS' => ?ry19) ?rz19
  case ry19 =>
    have m0 := (k.below hS' k.lt).cell (i := 0) rfl
    have m1 := (k.below hS' k.lt).cell (i := 1) rfl
    have m2 := (k.below hS' k.lt).cell (i := 2) rfl
    go_simp
    rfl
  simp only [List.setIfInBounds_toArray, List.set_cons_zero, List.set_cons_succ]
  refine take_op 20 (v := ?rv20) rfl (by kernel_rfl) (fun _ _ _ h => h) (by rfl) hS (fun w' hS' => ?ry20) ?rz20
  case ry20 =>
    go_simp
    try go_ints
    rfl
  simp only [List.setIfInBounds_toArray, List.set_cons_zero, List.set_cons_succ]
  refine step_op 21 (by kernel_rfl) rfl (fun K hK => ?_)
  rw [if_pos (by rfl)]
  go_simp
  refine (at_any iw ih X Y a c xs n hn _ (Int.le_trans (by decide) q1) (Int.le_trans (Int.le_of_lt q4) (by omega)) q2 q3 (by omega) ((hr.below (Nat.le_refl _) hBd).mono hBd.size)).mono ?_
  rintro e V2 ⟨rfl, hb2⟩
  rw [hres2.out]
  have hS2 : Below W.heap.size W V2 := hS.trans (hb2.mono hS.size)
  refine hK.out _ _ (fun h => hS2) ?_
  clear hK K
  try simp only [Act.put, List.setIfInBounds_toArray, List.set_cons_zero, List.set_cons_succ]
  refine take_op 22 (v := ?rv22) rfl (by kernel_rfl) (fun _ _ _ h => h) (by rfl) hS2 (fun w' hS' => ?ry22) ?rz22
  case ry22 =>
    go_simp
    rfl
  simp only [List.setIfInBounds_toArray, List.set_cons_zero, List.set_cons_succ]
  refine done_ops (by kernel_rfl) ?_
  go_wp2_with fail
  go_ret
  exact ⟨rfl, hB0.trans (hS2.mono hB0.size)⟩

set_option maxHeartbeats 1000000 in
theorem rest_any (x m r : Int) (h1 : 1 ≤ m) (h2 : m ≤ 16) (hres : Hid (x % m = r)) (w : World) :
    Calls Try.prog 162 #[.int .i64 x, .int .i64 m] w fun e w' => e = .returned (.int .i64 r) ∧ w = w' := by
  have e := rest_emod x m h1
  rw [hres.out] at e
  have t := tmod_small x h1 h2
  have nm : m ≠ 0 := by omega
  go_enter Try.func162, Try.ntmps162
  go_wp2_with fail
  go_ret
  exact ⟨rfl, rfl⟩

set_option maxRecDepth 100000 in
set_option maxHeartbeats 2000000 in
theorem Beyond_any (bd : Int) (hbd1 : 1 ≤ bd) (hbd2 : bd ≤ 3) (iw ih : Int) (a : Option Addr) (c n : Nat) (xs : List Int) (hn : Hid (xs.length = n)) (x y : Int) (w : World) (hi1 : 1 ≤ iw) (hi2 : iw ≤ 16) (hi3 : 1 ≤ ih) (hi4 : ih ≤ 16) (hnn : Hid ((n : Int) = iw * ih)) (hx1 : -100 ≤ x) (hx2 : x ≤ 100) (hy1 : -100 ≤ y) (hy2 : y ≤ 100) (r : Int) (hres : Hid (beyF bd iw ih xs x y = r)) (hr : Rd w.heap.size w a xs) :
    Calls Try.prog 158 #[imv iw ih a n c, .int .u8 bd, .int .i64 x, .int .i64 y] w fun e w' => e = .returned (.int .i64 r) ∧ Below w.heap.size w w' := by
  have hn9 : n ≤ 256 := by
    have := hnn.out
    obtain ⟨m1, m2⟩ := mul_small (a := iw) (b := ih) (m := 16) (n := 16) (by omega) (by omega) (by omega) (by omega)
    omega
  have hB0 : Below w.heap.size w (w.alloc (.cells #[.int .i64 iw, .int .i64 ih, .slice a n c] 29)) := below_al (Below.refl _ _) _
  have k := Blk.new w 29 #[.int .i64 iw, .int .i64 ih, .slice a n c]
  obtain ⟨W, hW⟩ : ∃ W, w.alloc (.cells #[.int .i64 iw, .int .i64 ih, .slice a n c] 29) = W := ⟨_, rfl⟩
  rw [hW] at hB0 k
  obtain ⟨γ, hγ⟩ : ∃ γ, (inR x 0 (iw - 1) && inR y 0 (ih - 1)) = γ := ⟨_, rfl⟩
  have m0 := k.cell (i := 0) rfl
  have m1 := k.cell (i := 1) rfl
  have m2 := k.cell (i := 2) rfl
  go_enter Try.func158, Try.ntmps158
  go_wp2_with fail
  clear hW
  refine (Inside_any iw ih x y (.slice a n c) W (by omega) (by omega) (by omega) (by omega) ⟨_, _, _, rfl⟩).mono ?_
  rintro e W1 ⟨rfl, hb⟩
  rw [hγ]
  replace k := k.below hb k.lt
  replace hB0 := hB0.trans (hb.mono hB0.size)
  clear m0 m1 m2 hb
  have m0 := k.cell (i := 0) rfl
  have m1 := k.cell (i := 1) rfl
  have m2 := k.cell (i := 2) rfl
  cases γ with
  | true =>
    have hres2 := Lib.hid ((beyF_in hγ).symm.trans hres.out)
    simp only [Bool.and_eq_true, inR_true] at hγ
    obtain ⟨⟨g1, g2⟩, g3, g4⟩ := hγ
    obtain ⟨q1, q2, q3, q4⟩ := in_idx (iw := iw) (ih := ih) (u := x) (v := y) hi1 hnn.out g1 g2 g3 g4
    go_wp2_with fail
    refine (At_any iw ih x y a c xs n hn _ (Int.le_trans (by decide) q1) (Int.le_trans (Int.le_of_lt q4) (by omega)) q2 q3 (by omega) ((hr.below (Nat.le_refl _) hB0).mono hB0.size)).mono ?_
    rintro e W2 ⟨rfl, hb2⟩
    rw [hres2.out]
    go_wp2_with fail
    go_ret
    exact ⟨rfl, hB0.trans (hb2.mono hB0.size)⟩
  | false =>
    have hbd : bd = 1 ∨ bd = 2 ∨ bd = 3 := by omega
    clear hbd1 hbd2
    rcases hbd with rfl | rfl | rfl
    · have hres2 := Lib.hid ((beyF_out1 hγ).symm.trans hres.out)
      go_wp2_with fail
      go_ret
      exact ⟨ret_int hres2.out, hB0⟩
    · clear hγ
      obtain ⟨cx1, cx2⟩ := clamp_le (n := x) (lo := 0) (hi := iw - 1) (by omega)
      obtain ⟨cy1, cy2⟩ := clamp_le (n := y) (lo := 0) (hi := ih - 1) (by omega)
      obtain ⟨q1, q2, q3, q4⟩ := in_idx (iw := iw) (ih := ih) (u := clamp x 0 (iw - 1)) (v := clamp y 0 (ih - 1)) hi1 hnn.out cx1 cx2 cy1 cy2
      have hres2 := Lib.hid ((beyF_2 iw ih xs x y).symm.trans hres.out)
      have hS : Below W1.heap.size W1 W1.drew := (Below.refl _ _).drew
      have hBd : Below w.heap.size w W1.drew := hB0.trans (hS.mono hB0.size)
      go_wp2_with fail
      refine plain_region (fun W' => Below W1.heap.size W1 W') 13 13 (by kernel_rfl) rfl ?_
      simp only [Array.replicate_succ, Array.replicate_zero, List.push_toArray, List.nil_append, List.cons_append]
      refine take_op 0 (v := ?rv0) rfl (by kernel_rfl) (fun _ _ _ h => h) (by rfl) hS (fun w' hS' => ?ry0) ?rz0
      case ry0 =>
        have m0 := (k.below hS' k.lt).cell (i := 0) rfl
        have m1 := (k.below hS' k.lt).cell (i := 1) rfl
        have m2 := (k.below hS' k.lt).cell (i := 2) rfl
        go_simp
        rfl
      simp only [List.setIfInBounds_toArray, List.set_cons_zero, List.set_cons_succ]
      refine take_op 1 (v := ?rv1) rfl (by kernel_rfl) (fun _ _ _ h => h) (by rfl) hS (fun w' hS' => ?ry1) ?rz1
      case ry1 =>
        go_simp
        rfl
      simp only [List.setIfInBounds_toArray, List.set_cons_zero, List.set_cons_succ]
      refine take_op 2 (v := ?rv2) rfl (by kernel_rfl) (fun _ _ _ h => h) (by rfl) hS (fun w' hS' => ?ry2) ?rz2
      case ry2 =>
        go_simp
        rfl
      simp only [List.setIfInBounds_toArray, List.set_cons_zero, List.set_cons_succ]
      refine take_op 3 (v := ?rv3) rfl (by kernel_rfl) (fun _ _ _ h => h) (by rfl) hS (fun w' hS' => ?ry3) ?rz3
      case ry3 =>
        have m0 := (k.below hS' k.lt).cell (i := 0) rfl
        have m1 := (k.below hS' k.lt).cell (i := 1) rfl
        have m2 := (k.below hS' k.lt).cell (i := 2) rfl
        go_simp
        rfl
      simp only [List.setIfInBounds_toArray, List.set_cons_zero, List.set_cons_succ]
      refine take_op 4 (v := ?rv4) rfl (by kernel_rfl) (fun _ _ _ h => h) (by rfl) hS (fun w' hS' => ?ry4) ?rz4
      case ry4 =>
        go_simp
        try go_ints
        rfl
      simp only [List.setIfInBounds_toArray, List.set_cons_zero, List.set_cons_succ]
      refine take_op 6 (v := ?rv6) rfl (by kernel_rfl) (fun _ _ _ h => h) (by rfl) hS (fun w' hS' => ?ry6) ?rz6
      case ry6 =>
        go_simp
        rfl
      simp only [List.setIfInBounds_toArray, List.set_cons_zero, List.set_cons_succ]
      refine take_op 7 (v := ?rv7) rfl (by kernel_rfl) (fun _ _ _ h => h) (by rfl) hS (fun w' hS' => ?ry7) ?rz7
      case ry7 =>
        go_simp
        rfl
      simp only [List.setIfInBounds_toArray, List.set_cons_zero, List.set_cons_succ]
      refine take_op 8 (v := ?rv8) rfl (by kernel_rfl) (fun _ _ _ h => h) (by rfl) hS (fun w' hS' => ?ry8) ?rz8
      case ry8 =>
        have m0 := (k.below hS' k.lt).cell (i := 0) rfl
        have m1 := (k.below hS' k.lt).cell (i := 1) rfl
        have m2 := (k.below hS' k.lt).cell (i := 2) rfl
        go_simp
        rfl
      simp only [List.setIfInBounds_toArray, List.set_cons_zero, List.set_cons_succ]
      refine take_op 9 (v := ?rv9) rfl (by kernel_rfl) (fun _ _ _ h => h) (by rfl) hS (fun w' hS' => ?ry9) ?rz9
      case ry9 =>
        go_simp
        try go_ints
        rfl
      simp only [List.setIfInBounds_toArray, List.set_cons_zero, List.set_cons_succ]
      refine step_op 5 (by kernel_rfl) rfl (fun K hK => ?_)
      rw [if_pos (by rfl)]
      go_simp
      refine (Into_any x 0 (iw - 1) _).mono ?_
      rintro e V1 ⟨rfl, rfl⟩
      refine hK.out _ _ (fun h => hS) ?_
      clear hK K
      try simp only [Act.put, List.setIfInBounds_toArray, List.set_cons_zero, List.set_cons_succ]
      refine step_op 10 (by kernel_rfl) rfl (fun K hK => ?_)
      rw [if_pos (by rfl)]
      go_simp
      refine (Into_any y 0 (ih - 1) _).mono ?_
      rintro e V1 ⟨rfl, rfl⟩
      refine hK.out _ _ (fun h => hS) ?_
      clear hK K
      try simp only [Act.put, List.setIfInBounds_toArray, List.set_cons_zero, List.set_cons_succ]
      refine step_op 11 (by kernel_rfl) rfl (fun K hK => ?_)
      rw [if_pos (by rfl)]
      go_simp
      refine (At_any iw ih _ _ a c xs n hn _ (Int.le_trans (by decide) q1) (Int.le_trans (Int.le_of_lt q4) (by omega)) q2 q3 (by omega) ((hr.below (Nat.le_refl _) hBd).mono hBd.size)).mono ?_
      rintro e V2 ⟨rfl, hb2⟩
      rw [hres2.out]
      have hS2 : Below W1.heap.size W1 V2 := hS.trans (hb2.mono hS.size)
      refine hK.out _ _ (fun h => hS2) ?_
      clear hK K
      try simp only [Act.put, List.setIfInBounds_toArray, List.set_cons_zero, List.set_cons_succ]
      refine take_op 12 (v := ?rv12) rfl (by kernel_rfl) (fun _ _ _ h => h) (by rfl) hS2 (fun w' hS' => ?ry12) ?rz12
      case ry12 =>
        go_simp
        rfl
      simp only [List.setIfInBounds_toArray, List.set_cons_zero, List.set_cons_succ]
      refine done_ops (by kernel_rfl) ?_
      go_wp2_with fail
      go_ret
      exact ⟨rfl, hB0.trans (hS2.mono hB0.size)⟩
    · clear hγ
      obtain ⟨X, hX⟩ : ∃ X, x % iw = X := ⟨_, rfl⟩
      obtain ⟨Y, hY⟩ : ∃ Y, y % ih = Y := ⟨_, rfl⟩
      have eX := rest_emod x iw hi1
      have eY := rest_emod y ih hi3
      rw [hX] at eX
      rw [hY] at eY
      have bX : 0 ≤ X ∧ X ≤ iw - 1 := by
        have h1 := Int.emod_nonneg x (show iw ≠ 0 by omega)
        have h2 := Int.emod_lt_of_pos x (show 0 < iw by omega)
        omega
      have bY : 0 ≤ Y ∧ Y ≤ ih - 1 := by
        have h1 := Int.emod_nonneg y (show ih ≠ 0 by omega)
        have h2 := Int.emod_lt_of_pos y (show 0 < ih by omega)
        omega
      have tX : -16 ≤ x.tmod iw ∧ x.tmod iw ≤ 16 := tmod_small x (by omega) (by omega)
      have tY : -16 ≤ y.tmod ih ∧ y.tmod ih ≤ 16 := tmod_small y (by omega) (by omega)
      obtain ⟨q1, q2, q3, q4⟩ := in_idx (iw := iw) (ih := ih) (u := X) (v := Y) hi1 hnn.out bX.1 bX.2 bY.1 bY.2
      have hres2 := Lib.hid (show px xs (Y * iw + X) = r by rw [← hres.out, beyF_3, hX, hY])
      have nw : iw ≠ 0 := by omega
      have nh : ih ≠ 0 := by omega
      have hXH := Lib.hid hX
      have hYH := Lib.hid hY
      clear hX hY eX eY tX tY
      have hS : Below W1.heap.size W1 W1.drew := (Below.refl _ _).drew
      have hBd : Below w.heap.size w W1.drew := hB0.trans (hS.mono hB0.size)
      go_wp2_with fail
      refine plain_region (fun W' => Below W1.heap.size W1 W') 11 11 (by kernel_rfl) rfl ?_
      simp only [Array.replicate_succ, Array.replicate_zero, List.push_toArray, List.nil_append, List.cons_append]
      refine take_op 0 (v := ?uv0) rfl (by kernel_rfl) (fun _ _ _ h => h) (by rfl) hS (fun w' hS' => ?uy0) ?uz0
      case uy0 =>
        have m0 := (k.below hS' k.lt).cell (i := 0) rfl
        have m1 := (k.below hS' k.lt).cell (i := 1) rfl
        have m2 := (k.below hS' k.lt).cell (i := 2) rfl
        go_simp
        rfl
      simp only [List.setIfInBounds_toArray, List.set_cons_zero, List.set_cons_succ]
      refine take_op 1 (v := ?uv1) rfl (by kernel_rfl) (fun _ _ _ h => h) (by rfl) hS (fun w' hS' => ?uy1) ?uz1
      case uy1 =>
        go_simp
        rfl
      simp only [List.setIfInBounds_toArray, List.set_cons_zero, List.set_cons_succ]
      refine take_op 2 (v := ?uv2) rfl (by kernel_rfl) (fun _ _ _ h => h) (by rfl) hS (fun w' hS' => ?uy2) ?uz2
      case uy2 =>
        go_simp
        rfl
      simp only [List.setIfInBounds_toArray, List.set_cons_zero, List.set_cons_succ]
      refine take_op 3 (v := ?uv3) rfl (by kernel_rfl) (fun _ _ _ h => h) (by rfl) hS (fun w' hS' => ?uy3) ?uz3
      case uy3 =>
        have m0 := (k.below hS' k.lt).cell (i := 0) rfl
        have m1 := (k.below hS' k.lt).cell (i := 1) rfl
        have m2 := (k.below hS' k.lt).cell (i := 2) rfl
        go_simp
        rfl
      simp only [List.setIfInBounds_toArray, List.set_cons_zero, List.set_cons_succ]
      refine take_op 5 (v := ?uv5) rfl (by kernel_rfl) (fun _ _ _ h => h) (by rfl) hS (fun w' hS' => ?uy5) ?uz5
      case uy5 =>
        go_simp
        rfl
      simp only [List.setIfInBounds_toArray, List.set_cons_zero, List.set_cons_succ]
      refine take_op 6 (v := ?uv6) rfl (by kernel_rfl) (fun _ _ _ h => h) (by rfl) hS (fun w' hS' => ?uy6) ?uz6
      case uy6 =>
        go_simp
        rfl
      simp only [List.setIfInBounds_toArray, List.set_cons_zero, List.set_cons_succ]
      refine take_op 7 (v := ?uv7) rfl (by kernel_rfl) (fun _ _ _ h => h) (by rfl) hS (fun w' hS' => ?uy7) ?uz7
      case uy7 =>
        have m0 := (k.below hS' k.lt).cell (i := 0) rfl
        have m1 := (k.below hS' k.lt).cell (i := 1) rfl
        have m2 := (k.below hS' k.lt).cell (i := 2) rfl
        go_simp
        rfl
      simp only [List.setIfInBounds_toArray, List.set_cons_zero, List.set_cons_succ]
      refine step_op 4 (by kernel_rfl) rfl (fun K hK => ?_)
      rw [if_pos (by rfl)]
      go_simp
      refine (rest_any x iw X hi1 hi2 hXH _).mono ?_
      rintro e V1 ⟨rfl, rfl⟩
      refine hK.out _ _ (fun h => hS) ?_
      clear hK K
      try simp only [Act.put, List.setIfInBounds_toArray, List.set_cons_zero, List.set_cons_succ]
      refine step_op 8 (by kernel_rfl) rfl (fun K hK => ?_)
      rw [if_pos (by rfl)]
      go_simp
      refine (rest_any y ih Y hi3 hi4 hYH _).mono ?_
      rintro e V1 ⟨rfl, rfl⟩
      refine hK.out _ _ (fun h => hS) ?_
      clear hK K
      try simp only [Act.put, List.setIfInBounds_toArray, List.set_cons_zero, List.set_cons_succ]
      refine step_op 9 (by kernel_rfl) rfl (fun K hK => ?_)
      rw [if_pos (by rfl)]
      go_simp
      refine (At_any iw ih X Y a c xs n hn _ (Int.le_trans (by decide) q1) (Int.le_trans (Int.le_of_lt q4) (by omega)) q2 q3 (by omega) ((hr.below (Nat.le_refl _) hBd).mono hBd.size)).mono ?_
      rintro e V2 ⟨rfl, hb2⟩
      rw [hres2.out]
      have hS2 : Below W1.heap.size W1 V2 := hS.trans (hb2.mono hS.size)
      refine hK.out _ _ (fun h => hS2) ?_
      clear hK K
      try simp only [Act.put, List.setIfInBounds_toArray, List.set_cons_zero, List.set_cons_succ]
      refine take_op 10 (v := ?uv10) rfl (by kernel_rfl) (fun _ _ _ h => h) (by rfl) hS2 (fun w' hS' => ?uy10) ?uz10
      case uy10 =>
        go_simp
        rfl
      simp only [List.setIfInBounds_toArray, List.set_cons_zero, List.set_cons_succ]
      refine done_ops (by kernel_rfl) ?_
      go_wp2_with fail
      go_ret
      exact ⟨rfl, hB0.trans (hS2.mono hB0.size)⟩

/-- How the borders' functions are told in a map. -/
def fnR (v : Value) : Option (DataW Unit × List MemPlace) := match v with
  | .func (.func k) l m => if l = #[] ∧ m = #[] then some (.lit (.int .i64 k), []) else none
  | .nilFunc => some (.lit (.int .i64 (-1)), [])
  | _ => none
theorem fnR_func {v : Value} {k : Nat} {ps : List MemPlace} (h : fnR v = some (.lit (.int .i64 k), ps)) : v = .func (.func k) #[] #[] := by
  unfold fnR at h
  split at h
  · split at h
    · rename_i hc
      simp only [Option.some.injEq, Prod.mk.injEq, DataW.lit.injEq, Lit.int.injEq, true_and] at h
      obtain ⟨h1, _⟩ := h
      have : (_ : Nat) = k := Int.ofNat.inj h1
      rw [this, hc.1, hc.2]
    · simp at h
  · simp at h <;> omega
  · simp at h
theorem fnR_nil {v : Value} {ps : List MemPlace} (h : fnR v = some (.lit (.int .i64 (-1)), ps)) : v = .nilFunc := by
  unfold fnR at h
  split at h
  · split at h
    · simp at h <;> omega
    · simp at h
  · rfl
  · simp at h

/-- The function of a border. -/
def bordF (bd : Int) : Value := if bd = 1 then .func (.func 142) #[] #[] else if bd = 2 then .func (.func 143) #[] #[] else if bd = 3 then .func (.func 144) #[] #[] else .nilFunc

set_option maxRecDepth 100000 in
set_option maxHeartbeats 2000000 in
theorem border_any (bd : Int) (h1 : 0 ≤ bd) (h2 : bd ≤ 255) (r : Value) (hres : Hid (bordF bd = r)) (w : World) :
    Calls Try.prog 114 #[.int .u8 bd] w fun e w' => e = .returned r ∧ Below w.heap.size w w' := by
  have hmm := @run_makeMap Try.prog
  have K : Maps.Keyed Try.prog 5 := Maps.int_keyed Try.underlying5
  have key : ∀ k : Int, 0 ≤ k → k ≤ 255 → keyOf Try.prog 5 (.int .u8 k) = some (.int .u8 k) := fun k hk1 hk2 => Maps.keyOf_int_mk Try.underlying5 (by simp [Lit.wf, IntKind.min, IntKind.max, IntKind.signed, IntKind.bits]; omega)
  have m0 := World.ownsMap_made (H := Unit) w Try.prog 5 fnR
  obtain ⟨w1, r1, m1, g1⟩ := m0.update K Try.underlying179 (by unfold maxLen; omega) (key 1 (by omega) (by omega)) (val := .func (.func 142) #[] #[]) (d := .lit (.int .i64 (142 : Nat))) (ps := []) rfl
  obtain ⟨w2, r2, m2, g2⟩ := m1.update K Try.underlying179 (by unfold maxLen; omega) (key 2 (by omega) (by omega)) (val := .func (.func 143) #[] #[]) (d := .lit (.int .i64 (143 : Nat))) (ps := []) rfl
  obtain ⟨w3, r3, m3, g3⟩ := m2.update K Try.underlying179 (by unfold maxLen; omega) (key 3 (by omega) (by omega)) (val := .func (.func 144) #[] #[]) (d := .lit (.int .i64 (144 : Nat))) (ps := []) rfl
  obtain ⟨v, ps, r4, hv⟩ := m3.lookup K Try.underlying179 (z := .nilFunc) (zd := .lit (.int .i64 (-1))) (zp := []) (by kernel_rfl) rfl (key bd h1 h2)
  have hvr : v = r := by
    rw [← hres.out]
    unfold bordF
    by_cases c1 : bd = 1
    · subst c1; rw [if_pos rfl]; exact fnR_func hv
    · by_cases c2 : bd = 2
      · subst c2; rw [if_neg (by decide), if_pos rfl]; exact fnR_func hv
      · by_cases c3 : bd = 3
        · subst c3; rw [if_neg (by decide), if_neg (by decide), if_pos rfl]; exact fnR_func hv
        · rw [if_neg c1, if_neg c2, if_neg c3]
          refine fnR_nil (ps := ps) ?_
          rw [hv]
          simp [DataW.put, DataW.atKey, DataW.insert, Lit.before, Lit.sameKey, List.find?, c1, c2, c3, Ne.symm c1, Ne.symm c2, Ne.symm c3]
  rw [hvr] at r4
  have hb : Below w.heap.size w w3 := ((((below_al (Below.refl _ w) _).grown g1 (by simp) (fun k e => by cases e; exact Nat.le_refl _)).grown g2 (Nat.le_trans (by simp) g1.size) (fun k e => by cases e; exact Nat.le_refl _))).grown g3 (Nat.le_trans (Nat.le_trans (by simp) g1.size) g2.size) (fun k e => by cases e; exact Nat.le_refl _)
  clear hvr hv m0 m1 m2 m3 g1 g2 g3 key K
  go_enter Try.func114, Try.ntmps114
  go_wp2_with fail
  go_ret
  exact ⟨rfl, hb⟩

end Go.Proofs.Ytekiemlniegddaa

namespace Go.Proofs.Ytekiemlniegddaa
open Go Go.RowKit Go.Shelf
set_option linter.unusedVariables false
set_option linter.unusedSimpArgs false

attribute [local go_sem] Oper.semAt_some

theorem funcEq1 (fo : Nat) (W : World) : (binOp BinOp.eql 163 (.func (.func fo) #[] #[]) .nilFunc).run Try.prog W = .ok (.bool false) W := by
  have h : Try.prog.underlying 163 = _ := Try.underlying163
  have hd : Op.maxDepth = (Op.maxDepth - 1) + 1 := rfl
  simp only [binOp, Op.equal]
  rw [hd]
  simp [Op.equalIn, go_sem, run_underlying h]
theorem funcEq2 (W : World) : (binOp BinOp.eql 163 .nilFunc .nilFunc).run Try.prog W = .ok (.bool true) W := by
  have h : Try.prog.underlying 163 = _ := Try.underlying163
  have hd : Op.maxDepth = (Op.maxDepth - 1) + 1 := rfl
  simp only [binOp, Op.equal]
  rw [hd]
  simp [Op.equalIn, go_sem, run_underlying h]
attribute [local go_sem] funcEq1 funcEq2

/-- Term t of a convolution at (x, y). -/
def convT (bd iw ih : Int) (xs : List Int) (kw kh : Nat) (taps : List Int) (x y : Int) (t : Nat) : Int := px taps t * beyF bd iw ih xs (x + ((kw / 2 : Nat) : Int) - ((t % kw : Nat) : Int)) (y + ((kh / 2 : Nat) : Int) - ((t / kw : Nat) : Int))
def convG (bd iw ih : Int) (xs : List Int) (kw kh : Nat) (taps : List Int) (x y : Int) : Int := sumTo (convT bd iw ih xs kw kh taps x y) (kw * kh)

def sumL (f : Nat → Int) (l : List Nat) : Int := l.foldl (fun s t => s + f t) 0
theorem sumL_snoc (f : Nat → Int) (l : List Nat) (t : Nat) : sumL f (l ++ [t]) = sumL f l + f t := by unfold sumL; rw [List.foldl_append]; rfl
theorem sumL_range (f : Nat → Int) (n : Nat) : sumL f (List.range n) = sumTo f n := by
  induction n with
  | zero => rfl
  | succ n ih => rw [List.range_succ, sumL_snoc, ih]; rfl
theorem sumL_bd {f : Nat → Int} {B : Int} (h : ∀ t, -B ≤ f t ∧ f t ≤ B) : ∀ (n : Nat) (l : List Nat), l.length = n → -(B * n) ≤ sumL f l ∧ sumL f l ≤ B * n
  | 0, l, hl => by
    rw [List.eq_nil_of_length_eq_zero hl]
    simp [sumL]
  | n + 1, l, hl => by
    have hne : l ≠ [] := by rintro rfl; simp at hl
    rw [← List.dropLast_concat_getLast hne, sumL_snoc]
    have h1 := sumL_bd h n l.dropLast (by simp [hl])
    have h2 := h (l.getLast hne)
    have e : B * ((n + 1 : Nat) : Int) = B * n + B := by rw [Int.natCast_succ, Int.mul_add, Int.mul_one]
    rw [e]
    omega

def kernOk (kw kh : Int) (taps : List Int) : Bool := sidesB kw kh taps.length && allIn (-65536) 65536 taps

theorem convT_bd {xs taps : List Int} (h : allIn (-2147483648) 2147483648 xs = true) (ht : allIn (-65536) 65536 taps = true) (bd iw ih : Int) (kw kh : Nat) (x y : Int) (t : Nat) : -140737488355328 ≤ convT bd iw ih xs kw kh taps x y t ∧ convT bd iw ih xs kw kh taps x y t ≤ 140737488355328 := by
  have h1 := px_bdB (B := 65536) (by decide) ht (t : Int)
  have h2 := beyF_bd h bd iw ih (x + ((kw / 2 : Nat) : Int) - ((t % kw : Nat) : Int)) (y + ((kh / 2 : Nat) : Int) - ((t / kw : Nat) : Int))
  have h3 := mul_bd h1.1 h1.2 h2.1 h2.2 (by decide) (by decide)
  unfold convT
  omega

set_option maxRecDepth 100000 in
set_option maxHeartbeats 8000000 in
theorem Convolve1_any (bd : Int) (iw ih : Int) (a : Option Addr) (c n : Nat) (xs : List Int) (hn : Hid (xs.length = n)) (hall : Hid (allIn (-2147483648) 2147483648 xs = true)) (kw kh : Nat) (ak : Option Addr) (ck nk : Nat) (taps : List Int) (hkn : Hid (taps.length = nk)) (htall : Hid (allIn (-65536) 65536 taps = true)) (hkw : kw = 1 ∨ kw = 3 ∨ kw = 5) (hkh : kh = 1 ∨ kh = 3 ∨ kh = 5) (hns : Hid (kw * kh = nk))
    (fo : Nat) (eg : ∀ args w, (callFunc fo args).run Try.prog w = .ok (.enter fo args) w) (hfo : ∀ (u v : Int) (r : Int) (w : World), -100 ≤ u → u ≤ 100 → -100 ≤ v → v ≤ 100 → Hid (beyF bd iw ih xs u v = r) → Rd w.heap.size w a xs → Calls Try.prog fo #[imv iw ih a n c, .int .i64 u, .int .i64 v] w fun e w' => e = .returned (.int .i64 r) ∧ Below w.heap.size w w')
    (x y : Int) (bk ba bm : Nat) (W0 : World) (hx1 : 0 ≤ x) (hx2 : x ≤ 15) (hy1 : 0 ≤ y) (hy2 : y ≤ 15)
    (kk : Blk W0 bk 71 #[.int .i64 kw, .int .i64 kh, .slice ak nk ck]) (ka : Blk W0 ba 163 #[.func (.func fo) #[] #[]]) (km : Blk W0 bm 29 #[.int .i64 iw, .int .i64 ih, .slice a n c]) (hr : Rd W0.heap.size W0 a xs) (hrk : Rd W0.heap.size W0 ak taps) :
    Calls Try.prog 115 (#[.int .i64 x, .int .i64 y] ++ #[.pointer (some ⟨bk, 0, none⟩), .pointer (some ⟨ba, 0, none⟩), .pointer (some ⟨bm, 0, none⟩)]) W0 fun e W' => e = .returned (.int .i64 (convG bd iw ih xs kw kh taps x y)) ∧ Below W0.heap.size W0 W' := by
  have hnsP : 1 ≤ nk ∧ nk ≤ 25 := by
    have := hns.out
    rcases hkw with rfl | rfl | rfl <;> rcases hkh with rfl | rfl | rfl <;> omega
  obtain ⟨bt, ot, rfl, hbt, hbc⟩ := rd_at hrk hkn.out (by omega)
  have hbcH := Lib.hid hbc
  have hfoH := Lib.hid hfo
  clear hbc hrk hfo
  obtain ⟨hw, ehw⟩ : ∃ v, (kw : Int).tdiv 2 = v := ⟨_, rfl⟩
  obtain ⟨hh, ehh⟩ : ∃ v, (kh : Int).tdiv 2 = v := ⟨_, rfl⟩
  have hw1 : ((kw / 2 : Nat) : Int) = hw ∧ (kw : Int) / 2 = hw ∧ 0 ≤ hw ∧ hw ≤ 2 := by rw [← ehw]; rcases hkw with rfl | rfl | rfl <;> decide
  have hh1 : ((kh / 2 : Nat) : Int) = hh ∧ (kh : Int) / 2 = hh ∧ 0 ≤ hh ∧ hh ≤ 2 := by rw [← ehh]; rcases hkh with rfl | rfl | rfl <;> decide
  obtain ⟨hwe, ehw', hw2, hw3⟩ := hw1
  obtain ⟨hhe, ehh', hh2, hh3⟩ := hh1
  have hweH := Lib.hid hwe
  have hheH := Lib.hid hhe
  clear hwe hhe
  obtain ⟨TT, hTT⟩ : ∃ f, convT bd iw ih xs kw kh taps x y = f := ⟨_, rfl⟩
  have hG := Lib.hid (show convG bd iw ih xs kw kh taps x y = sumTo TT (kw * kh) by unfold convG; rw [hTT])
  have hTB := Lib.hid (fun t => (show -140737488355328 ≤ TT t ∧ TT t ≤ 140737488355328 by rw [← hTT]; exact convT_bd hall.out htall.out bd iw ih kw kh x y t))
  have hTTH := Lib.hid hTT
  clear hTT
  refine (callsIn_wide (n := 10)).1 ?_
  refine callsIn_of_wp_marks Try.func115 rfl trivial ?_
  simp only [Try.ntmps115, List.size_toArray, List.length_cons, List.length_nil, Nat.reduceAdd, Nat.reduceSub, Array.replicate_succ, Array.replicate_zero, List.push_toArray, List.append_toArray, List.nil_append, List.cons_append]
  obtain ⟨B0, hB0⟩ : ∃ B, W0.heap.size = B := ⟨_, rfl⟩
  have e0 := ((((kk).alloc (.cells #[.int .i64 x] 3)).alloc (.cells #[.int .i64 y] 3)).alloc (.cells #[.int .i64 0] 3)).cell (i := 0) rfl
  have e1' := ((((kk).alloc (.cells #[.int .i64 x] 3)).alloc (.cells #[.int .i64 y] 3)).alloc (.cells #[.int .i64 0] 3)).cell (i := 1) rfl
  gi_wp2_with fail
  clear e0 e1'
  refine ⟨trivial, (callsIn_wide.2 (places_any _ _ _)).mono ?_⟩
  rintro e w' ⟨rfl, rfl⟩
  gi_wp2_with fail
  have kx := ((((Blk.new W0 3 #[.int .i64 x]).alloc (.cells #[.int .i64 y] 3)).alloc (.cells #[.int .i64 0] 3)).alloc (.cells #[.int .i64 kw] 3)).alloc (.cells #[.int .i64 kh] 3)
  have ky := (((Blk.new ((W0).alloc (.cells #[.int .i64 x] 3)) 3 #[.int .i64 y]).alloc (.cells #[.int .i64 0] 3)).alloc (.cells #[.int .i64 kw] 3)).alloc (.cells #[.int .i64 kh] 3)
  have ko := ((Blk.new (((W0).alloc (.cells #[.int .i64 x] 3)).alloc (.cells #[.int .i64 y] 3)) 3 #[.int .i64 0]).alloc (.cells #[.int .i64 kw] 3)).alloc (.cells #[.int .i64 kh] 3)
  have kpw := (Blk.new ((((W0).alloc (.cells #[.int .i64 x] 3)).alloc (.cells #[.int .i64 y] 3)).alloc (.cells #[.int .i64 0] 3)) 3 #[.int .i64 kw]).alloc (.cells #[.int .i64 kh] 3)
  have kph := Blk.new (((((W0).alloc (.cells #[.int .i64 x] 3)).alloc (.cells #[.int .i64 y] 3)).alloc (.cells #[.int .i64 0] 3)).alloc (.cells #[.int .i64 kw] 3)) 3 #[.int .i64 kh]
  have hbw := below_al (below_al (below_al (below_al (below_al (Below.refl _ W0) (.cells #[.int .i64 x] 3)) (.cells #[.int .i64 y] 3)) (.cells #[.int .i64 0] 3)) (.cells #[.int .i64 kw] 3)) (.cells #[.int .i64 kh] 3)
  have hsz : ((((((W0).alloc (.cells #[.int .i64 x] 3)).alloc (.cells #[.int .i64 y] 3)).alloc (.cells #[.int .i64 0] 3)).alloc (.cells #[.int .i64 kw] 3)).alloc (.cells #[.int .i64 kh] 3)).heap.size = W0.heap.size + 1 + 1 + 1 + 1 + 1 := by simp
  simp only [World.size_alloc] at ky ko kpw kph
  obtain ⟨V0, hV0⟩ : ∃ V, (((((W0).alloc (.cells #[.int .i64 x] 3)).alloc (.cells #[.int .i64 y] 3)).alloc (.cells #[.int .i64 0] 3)).alloc (.cells #[.int .i64 kw] 3)).alloc (.cells #[.int .i64 kh] 3) = V := ⟨_, rfl⟩
  rw [hV0] at kx ky ko kpw kph hbw hsz ⊢
  clear hV0
  have lk := kk.lt
  have la := ka.lt
  have lm := km.lt
  rw [hB0] at lk la lm kx ky ko kpw kph hbw hsz hbt hr
  refine wpIn_rangeFunc_ownG (n := 10) rfl (by omega) (gf := 145) (lb := #[.pointer (some ⟨B0 + 1 + 1 + 1 + 1, 0, none⟩), .pointer (some ⟨B0 + 1 + 1 + 1, 0, none⟩)]) rfl trivial (enters_of Try.func145 (by kernel_rfl) rfl)
    (Kp := fun A B => B.heap[B0 + 1 + 1 + 1]? = A.heap[B0 + 1 + 1 + 1]?)
    (places_stopsK Fence.wide 9 trivial rfl (by omega) (B0 + 1 + 1 + 1 + 1) (B0 + 1 + 1 + 1) kw kh (by omega) (by omega) V0 (by omega) (by omega) (kph.cell rfl) (kpw.cell rfl)) (fun h k => k.trans h) (fun W l o o' hl _ _ _ => World.putObj_heap_other (by omega)) (Below.refl _ _) (fun _ => rfl)
    (fun pre W => ((Blk W B0 3 #[.int .i64 x] ∧ Blk W (B0 + 1) 3 #[.int .i64 y]) ∧ (Blk W (B0 + 2) 3 #[.int .i64 (sumL TT (pre.map Fin.val))] ∧ B0 + 5 ≤ W.heap.size)) ∧ Below B0 W0 W)
    (fun _ _ _ => False)
    (OwnFrom.and (fun s A B row hs hg hr => ⟨⟨blk_keeps hs.1.1 hg (fun r e => (hr r e).2), blk_keeps hs.1.2 hg (fun r e => (hr r e).2)⟩, blk_keeps hs.2.1 hg (fun r e => (hr r e).2), Nat.le_trans hs.2.2 hg.size⟩) (ownFrom_below (by omega) (by omega)))
    (fun _ _ _ _ _ hs _ _ => hs)
    ⟨⟨⟨kx, ky⟩, ko, by omega⟩, hbw⟩
    ?act
    ?assign ?body ?done ?stop
  case assign =>
    intro l u W K hK
    simp only [enc2]
    gi_wp2
    exact hK
  case body =>
    rintro l pre ⟨i, hi'⟩ W ⟨⟨⟨kx, ky⟩, ko, hs1⟩, hB1⟩ hlt
    have hp0 : 0 < kw := by omega
    have hx : i % kw < kw := Nat.mod_lt _ hp0
    have hy : i / kw < kh := Nat.div_lt_of_lt_mul hi'
    have hsp := idx_split kw i
    have hsn := Lib.hid (sumL_snoc TT (pre.map Fin.val) i)
    have hpre : (pre ++ [(⟨i, hi'⟩ : Fin (kw * kh))]).map Fin.val = pre.map Fin.val ++ [i] := by simp
    have hpreH := Lib.hid hpre
    clear hpre
    have hsb := sumL_bd hTB.out pre.length (pre.map Fin.val) (by simp)
    have hl25 : pre.length < nk := by rw [← hns.out]; exact hlt
    have ecX : cX kw i = ((i % kw : Nat) : Int) := rfl
    have ecY : cY kw i = ((i / kw : Nat) : Int) := rfl
    dsimp only
    rw [ecX, ecY]
    have hin : i < nk := by rw [← hns.out]; exact hi'
    have hTE : TT i = px taps i * beyF bd iw ih xs (x + hw - ((i % kw : Nat) : Int)) (y + hh - ((i / kw : Nat) : Int)) := by rw [← hTTH.out]; unfold convT; rw [hweH.out, hheH.out]
    have htap := hbcH.out i hin
    have htb := px_bdB (B := 65536) (by decide) htall.out (i : Int)
    obtain ⟨tp, htp⟩ : ∃ v, px taps (i : Int) = v := ⟨_, rfl⟩
    rw [htp] at htap htb hTE
    obtain ⟨X, hX⟩ : ∃ X, i % kw = X := ⟨_, rfl⟩
    obtain ⟨Y, hY⟩ : ∃ Y, i / kw = Y := ⟨_, rfl⟩
    rw [hX] at hx hsp hTE ⊢
    rw [hY] at hy hsp hTE ⊢
    clear hX hY ecX ecY htp
    obtain ⟨bv, hbv⟩ : ∃ v, beyF bd iw ih xs (x + hw - (X : Int)) (y + hh - (Y : Int)) = v := ⟨_, rfl⟩
    have hbb := beyF_bd hall.out bd iw ih (x + hw - (X : Int)) (y + hh - (Y : Int))
    rw [hbv] at hbb hTE
    have hbvH := Lib.hid hbv
    clear hbv
    have hmb := mul_bd htb.1 htb.2 hbb.1 hbb.2 (by decide) (by decide)
    have p3 : ((Y : Int) * (kw : Int) + (X : Int)) < (nk : Int) := by
      have e : ((Y * kw + X : Nat) : Int) = (Y : Int) * (kw : Int) + (X : Int) := by simp
      omega
    have p4 : 0 ≤ (Y : Int) * (kw : Int) := Int.mul_nonneg (by omega) (by omega)
    obtain ⟨sv, hsv⟩ : ∃ v, sumL TT (pre.map Fin.val) = v := ⟨_, rfl⟩
    rw [hsv] at ko hsb
    have hsn2 : sumL TT (pre.map Fin.val ++ [i]) = sv + tp * bv := by rw [hsn.out, hsv, hTE]
    have hsn2H := Lib.hid hsn2
    clear hsn2 hsv hsn hTE
    have hS : Below W.heap.size W W.drew := (Below.refl _ _).drew
    gi_wp2_with fail
    refine round_region (fun W' => Below W.heap.size W W') 30 31 l _ (by kernel_rfl) (by kernel_rfl) (fun ⟨_, _, h⟩ => h) rfl ?_
    simp only [Array.replicate_succ, Array.replicate_zero, List.push_toArray, List.nil_append, List.cons_append]
    refine take_op 0 (v := ?rv0) rfl (by kernel_rfl) (fun _ _ _ h => h) (by rfl) hS (fun w' hS' => ?ry0) ?rz0
    case ry0 =>
      have a0 := (kk.below (hB1.trans (hS'.mono (by omega))) (by omega)).cell (i := 0) rfl
      have a1 := (kk.below (hB1.trans (hS'.mono (by omega))) (by omega)).cell (i := 1) rfl
      have a2 := (kk.below (hB1.trans (hS'.mono (by omega))) (by omega)).cell (i := 2) rfl
      have b0 := (ka.below (hB1.trans (hS'.mono (by omega))) (by omega)).cell (i := 0) rfl
      have m0 := (km.below (hB1.trans (hS'.mono (by omega))) (by omega)).cell (i := 0) rfl
      have m1 := (km.below (hB1.trans (hS'.mono (by omega))) (by omega)).cell (i := 1) rfl
      have m2 := (km.below (hB1.trans (hS'.mono (by omega))) (by omega)).cell (i := 2) rfl
      have c0 := (kx.below hS' kx.lt).cell (i := 0) rfl
      have d0 := (ky.below hS' ky.lt).cell (i := 0) rfl
      have o0 := (ko.below hS' ko.lt).cell (i := 0) rfl
      have t0 := ((hB1.trans (hS'.mono (by omega))).cell (p := ⟨bt, ot + i, none⟩) hbt).trans htap
      go_simp
      rfl
    simp only [List.setIfInBounds_toArray, List.set_cons_zero, List.set_cons_succ]
    refine take_op 1 (v := ?rv1) rfl (by kernel_rfl) (fun _ _ _ h => h) (by rfl) hS (fun w' hS' => ?ry1) ?rz1
    case ry1 =>
      go_simp
      rfl
    simp only [List.setIfInBounds_toArray, List.set_cons_zero, List.set_cons_succ]
    refine take_op 2 (v := ?rv2) rfl (by kernel_rfl) (fun _ _ _ h => h) (by rfl) hS (fun w' hS' => ?ry2) ?rz2
    case ry2 =>
      have a0 := (kk.below (hB1.trans (hS'.mono (by omega))) (by omega)).cell (i := 0) rfl
      have a1 := (kk.below (hB1.trans (hS'.mono (by omega))) (by omega)).cell (i := 1) rfl
      have a2 := (kk.below (hB1.trans (hS'.mono (by omega))) (by omega)).cell (i := 2) rfl
      have b0 := (ka.below (hB1.trans (hS'.mono (by omega))) (by omega)).cell (i := 0) rfl
      have m0 := (km.below (hB1.trans (hS'.mono (by omega))) (by omega)).cell (i := 0) rfl
      have m1 := (km.below (hB1.trans (hS'.mono (by omega))) (by omega)).cell (i := 1) rfl
      have m2 := (km.below (hB1.trans (hS'.mono (by omega))) (by omega)).cell (i := 2) rfl
      have c0 := (kx.below hS' kx.lt).cell (i := 0) rfl
      have d0 := (ky.below hS' ky.lt).cell (i := 0) rfl
      have o0 := (ko.below hS' ko.lt).cell (i := 0) rfl
      have t0 := ((hB1.trans (hS'.mono (by omega))).cell (p := ⟨bt, ot + i, none⟩) hbt).trans htap
      go_simp
      rfl
    simp only [List.setIfInBounds_toArray, List.set_cons_zero, List.set_cons_succ]
    refine take_op 3 (v := ?rv3) rfl (by kernel_rfl) (fun _ _ _ h => h) (by rfl) hS (fun w' hS' => ?ry3) ?rz3
    case ry3 =>
      go_simp
      rfl
    simp only [List.setIfInBounds_toArray, List.set_cons_zero, List.set_cons_succ]
    refine take_op 4 (v := ?rv4) rfl (by kernel_rfl) (fun _ _ _ h => h) (by rfl) hS (fun w' hS' => ?ry4) ?rz4
    case ry4 =>
      go_simp
      rfl
    simp only [List.setIfInBounds_toArray, List.set_cons_zero, List.set_cons_succ]
    refine take_op 5 (v := ?rv5) rfl (by kernel_rfl) (fun _ _ _ h => h) (by rfl) hS (fun w' hS' => ?ry5) ?rz5
    case ry5 =>
      have a0 := (kk.below (hB1.trans (hS'.mono (by omega))) (by omega)).cell (i := 0) rfl
      have a1 := (kk.below (hB1.trans (hS'.mono (by omega))) (by omega)).cell (i := 1) rfl
      have a2 := (kk.below (hB1.trans (hS'.mono (by omega))) (by omega)).cell (i := 2) rfl
      have b0 := (ka.below (hB1.trans (hS'.mono (by omega))) (by omega)).cell (i := 0) rfl
      have m0 := (km.below (hB1.trans (hS'.mono (by omega))) (by omega)).cell (i := 0) rfl
      have m1 := (km.below (hB1.trans (hS'.mono (by omega))) (by omega)).cell (i := 1) rfl
      have m2 := (km.below (hB1.trans (hS'.mono (by omega))) (by omega)).cell (i := 2) rfl
      have c0 := (kx.below hS' kx.lt).cell (i := 0) rfl
      have d0 := (ky.below hS' ky.lt).cell (i := 0) rfl
      have o0 := (ko.below hS' ko.lt).cell (i := 0) rfl
      have t0 := ((hB1.trans (hS'.mono (by omega))).cell (p := ⟨bt, ot + i, none⟩) hbt).trans htap
      go_simp
      rfl
    simp only [List.setIfInBounds_toArray, List.set_cons_zero, List.set_cons_succ]
    refine take_op 6 (v := ?rv6) rfl (by kernel_rfl) (fun _ _ _ h => h) (by rfl) hS (fun w' hS' => ?ry6) ?rz6
    case ry6 =>
      go_simp
      try go_ints
      rfl
    simp only [List.setIfInBounds_toArray, List.set_cons_zero, List.set_cons_succ]
    refine take_op 7 (v := ?rv7) rfl (by kernel_rfl) (fun _ _ _ h => h) (by rfl) hS (fun w' hS' => ?ry7) ?rz7
    case ry7 =>
      go_simp
      rfl
    simp only [List.setIfInBounds_toArray, List.set_cons_zero, List.set_cons_succ]
    refine take_op 8 (v := ?rv8) rfl (by kernel_rfl) (fun _ _ _ h => h) (by rfl) hS (fun w' hS' => ?ry8) ?rz8
    case ry8 =>
      go_simp
      try go_ints
      rfl
    simp only [List.setIfInBounds_toArray, List.set_cons_zero, List.set_cons_succ]
    refine take_op 9 (v := ?rv9) rfl (by kernel_rfl) (fun _ _ _ h => h) (by rfl) hS (fun w' hS' => ?ry9) ?rz9
    case ry9 =>
      go_simp
      try go_ints
      first
      | rfl
      | rw [if_pos ⟨by omega, by omega⟩]
    simp only [List.setIfInBounds_toArray, List.set_cons_zero, List.set_cons_succ]
    refine take_op 10 (v := ?rv10) rfl (by kernel_rfl) (fun _ _ _ h => h) (by rfl) hS (fun w' hS' => ?ry10) ?rz10
    case ry10 =>
      have a0 := (kk.below (hB1.trans (hS'.mono (by omega))) (by omega)).cell (i := 0) rfl
      have a1 := (kk.below (hB1.trans (hS'.mono (by omega))) (by omega)).cell (i := 1) rfl
      have a2 := (kk.below (hB1.trans (hS'.mono (by omega))) (by omega)).cell (i := 2) rfl
      have b0 := (ka.below (hB1.trans (hS'.mono (by omega))) (by omega)).cell (i := 0) rfl
      have m0 := (km.below (hB1.trans (hS'.mono (by omega))) (by omega)).cell (i := 0) rfl
      have m1 := (km.below (hB1.trans (hS'.mono (by omega))) (by omega)).cell (i := 1) rfl
      have m2 := (km.below (hB1.trans (hS'.mono (by omega))) (by omega)).cell (i := 2) rfl
      have c0 := (kx.below hS' kx.lt).cell (i := 0) rfl
      have d0 := (ky.below hS' ky.lt).cell (i := 0) rfl
      have o0 := (ko.below hS' ko.lt).cell (i := 0) rfl
      have t0 := ((hB1.trans (hS'.mono (by omega))).cell (p := ⟨bt, ot + i, none⟩) hbt).trans htap
      go_simp
      rfl
    simp only [List.setIfInBounds_toArray, List.set_cons_zero, List.set_cons_succ]
    refine take_op 11 (v := ?rv11) rfl (by kernel_rfl) (fun _ _ _ h => h) (by rfl) hS (fun w' hS' => ?ry11) ?rz11
    case ry11 =>
      have a0 := (kk.below (hB1.trans (hS'.mono (by omega))) (by omega)).cell (i := 0) rfl
      have a1 := (kk.below (hB1.trans (hS'.mono (by omega))) (by omega)).cell (i := 1) rfl
      have a2 := (kk.below (hB1.trans (hS'.mono (by omega))) (by omega)).cell (i := 2) rfl
      have b0 := (ka.below (hB1.trans (hS'.mono (by omega))) (by omega)).cell (i := 0) rfl
      have m0 := (km.below (hB1.trans (hS'.mono (by omega))) (by omega)).cell (i := 0) rfl
      have m1 := (km.below (hB1.trans (hS'.mono (by omega))) (by omega)).cell (i := 1) rfl
      have m2 := (km.below (hB1.trans (hS'.mono (by omega))) (by omega)).cell (i := 2) rfl
      have c0 := (kx.below hS' kx.lt).cell (i := 0) rfl
      have d0 := (ky.below hS' ky.lt).cell (i := 0) rfl
      have o0 := (ko.below hS' ko.lt).cell (i := 0) rfl
      have t0 := ((hB1.trans (hS'.mono (by omega))).cell (p := ⟨bt, ot + i, none⟩) hbt).trans htap
      go_simp
      rfl
    simp only [List.setIfInBounds_toArray, List.set_cons_zero, List.set_cons_succ]
    refine take_op 12 (v := ?rv12) rfl (by kernel_rfl) (fun _ _ _ h => h) (by rfl) hS (fun w' hS' => ?ry12) ?rz12
    case ry12 =>
      have a0 := (kk.below (hB1.trans (hS'.mono (by omega))) (by omega)).cell (i := 0) rfl
      have a1 := (kk.below (hB1.trans (hS'.mono (by omega))) (by omega)).cell (i := 1) rfl
      have a2 := (kk.below (hB1.trans (hS'.mono (by omega))) (by omega)).cell (i := 2) rfl
      have b0 := (ka.below (hB1.trans (hS'.mono (by omega))) (by omega)).cell (i := 0) rfl
      have m0 := (km.below (hB1.trans (hS'.mono (by omega))) (by omega)).cell (i := 0) rfl
      have m1 := (km.below (hB1.trans (hS'.mono (by omega))) (by omega)).cell (i := 1) rfl
      have m2 := (km.below (hB1.trans (hS'.mono (by omega))) (by omega)).cell (i := 2) rfl
      have c0 := (kx.below hS' kx.lt).cell (i := 0) rfl
      have d0 := (ky.below hS' ky.lt).cell (i := 0) rfl
      have o0 := (ko.below hS' ko.lt).cell (i := 0) rfl
      have t0 := ((hB1.trans (hS'.mono (by omega))).cell (p := ⟨bt, ot + i, none⟩) hbt).trans htap
      go_simp
      rfl
    simp only [List.setIfInBounds_toArray, List.set_cons_zero, List.set_cons_succ]
    refine take_op 13 (v := ?rv13) rfl (by kernel_rfl) (fun _ _ _ h => h) (by rfl) hS (fun w' hS' => ?ry13) ?rz13
    case ry13 =>
      have a0 := (kk.below (hB1.trans (hS'.mono (by omega))) (by omega)).cell (i := 0) rfl
      have a1 := (kk.below (hB1.trans (hS'.mono (by omega))) (by omega)).cell (i := 1) rfl
      have a2 := (kk.below (hB1.trans (hS'.mono (by omega))) (by omega)).cell (i := 2) rfl
      have b0 := (ka.below (hB1.trans (hS'.mono (by omega))) (by omega)).cell (i := 0) rfl
      have m0 := (km.below (hB1.trans (hS'.mono (by omega))) (by omega)).cell (i := 0) rfl
      have m1 := (km.below (hB1.trans (hS'.mono (by omega))) (by omega)).cell (i := 1) rfl
      have m2 := (km.below (hB1.trans (hS'.mono (by omega))) (by omega)).cell (i := 2) rfl
      have c0 := (kx.below hS' kx.lt).cell (i := 0) rfl
      have d0 := (ky.below hS' ky.lt).cell (i := 0) rfl
      have o0 := (ko.below hS' ko.lt).cell (i := 0) rfl
      have t0 := ((hB1.trans (hS'.mono (by omega))).cell (p := ⟨bt, ot + i, none⟩) hbt).trans htap
      go_simp
      rfl
    simp only [List.setIfInBounds_toArray, List.set_cons_zero, List.set_cons_succ]
    refine take_op 14 (v := ?rv14) rfl (by kernel_rfl) (fun _ _ _ h => h) (by rfl) hS (fun w' hS' => ?ry14) ?rz14
    case ry14 =>
      go_simp
      rfl
    simp only [List.setIfInBounds_toArray, List.set_cons_zero, List.set_cons_succ]
    refine take_op 15 (v := ?rv15) rfl (by kernel_rfl) (fun _ _ _ h => h) (by rfl) hS (fun w' hS' => ?ry15) ?rz15
    case ry15 =>
      have a0 := (kk.below (hB1.trans (hS'.mono (by omega))) (by omega)).cell (i := 0) rfl
      have a1 := (kk.below (hB1.trans (hS'.mono (by omega))) (by omega)).cell (i := 1) rfl
      have a2 := (kk.below (hB1.trans (hS'.mono (by omega))) (by omega)).cell (i := 2) rfl
      have b0 := (ka.below (hB1.trans (hS'.mono (by omega))) (by omega)).cell (i := 0) rfl
      have m0 := (km.below (hB1.trans (hS'.mono (by omega))) (by omega)).cell (i := 0) rfl
      have m1 := (km.below (hB1.trans (hS'.mono (by omega))) (by omega)).cell (i := 1) rfl
      have m2 := (km.below (hB1.trans (hS'.mono (by omega))) (by omega)).cell (i := 2) rfl
      have c0 := (kx.below hS' kx.lt).cell (i := 0) rfl
      have d0 := (ky.below hS' ky.lt).cell (i := 0) rfl
      have o0 := (ko.below hS' ko.lt).cell (i := 0) rfl
      have t0 := ((hB1.trans (hS'.mono (by omega))).cell (p := ⟨bt, ot + i, none⟩) hbt).trans htap
      go_simp
      rfl
    simp only [List.setIfInBounds_toArray, List.set_cons_zero, List.set_cons_succ]
    refine take_op 16 (v := ?rv16) rfl (by kernel_rfl) (fun _ _ _ h => h) (by rfl) hS (fun w' hS' => ?ry16) ?rz16
    case ry16 =>
      go_simp
      try go_ints
      rfl
    simp only [List.setIfInBounds_toArray, List.set_cons_zero, List.set_cons_succ]
    refine take_op 17 (v := ?rv17) rfl (by kernel_rfl) (fun _ _ _ h => h) (by rfl) hS (fun w' hS' => ?ry17) ?rz17
    case ry17 =>
      go_simp
      try go_ints
      rfl
    simp only [List.setIfInBounds_toArray, List.set_cons_zero, List.set_cons_succ]
    refine take_op 18 (v := ?rv18) rfl (by kernel_rfl) (fun _ _ _ h => h) (by rfl) hS (fun w' hS' => ?ry18) ?rz18
    case ry18 =>
      go_simp
      rfl
    simp only [List.setIfInBounds_toArray, List.set_cons_zero, List.set_cons_succ]
    refine take_op 19 (v := ?rv19) rfl (by kernel_rfl) (fun _ _ _ h => h) (by rfl) hS (fun w' hS' => ?ry19) ?rz19
    case ry19 =>
      go_simp
      try go_ints
      rfl
    simp only [List.setIfInBounds_toArray, List.set_cons_zero, List.set_cons_succ]
    refine take_op 20 (v := ?rv20) rfl (by kernel_rfl) (fun _ _ _ h => h) (by rfl) hS (fun w' hS' => ?ry20) ?rz20
    case ry20 =>
      have a0 := (kk.below (hB1.trans (hS'.mono (by omega))) (by omega)).cell (i := 0) rfl
      have a1 := (kk.below (hB1.trans (hS'.mono (by omega))) (by omega)).cell (i := 1) rfl
      have a2 := (kk.below (hB1.trans (hS'.mono (by omega))) (by omega)).cell (i := 2) rfl
      have b0 := (ka.below (hB1.trans (hS'.mono (by omega))) (by omega)).cell (i := 0) rfl
      have m0 := (km.below (hB1.trans (hS'.mono (by omega))) (by omega)).cell (i := 0) rfl
      have m1 := (km.below (hB1.trans (hS'.mono (by omega))) (by omega)).cell (i := 1) rfl
      have m2 := (km.below (hB1.trans (hS'.mono (by omega))) (by omega)).cell (i := 2) rfl
      have c0 := (kx.below hS' kx.lt).cell (i := 0) rfl
      have d0 := (ky.below hS' ky.lt).cell (i := 0) rfl
      have o0 := (ko.below hS' ko.lt).cell (i := 0) rfl
      have t0 := ((hB1.trans (hS'.mono (by omega))).cell (p := ⟨bt, ot + i, none⟩) hbt).trans htap
      go_simp
      rfl
    simp only [List.setIfInBounds_toArray, List.set_cons_zero, List.set_cons_succ]
    refine take_op 21 (v := ?rv21) rfl (by kernel_rfl) (fun _ _ _ h => h) (by rfl) hS (fun w' hS' => ?ry21) ?rz21
    case ry21 =>
      go_simp
      rfl
    simp only [List.setIfInBounds_toArray, List.set_cons_zero, List.set_cons_succ]
    refine take_op 22 (v := ?rv22) rfl (by kernel_rfl) (fun _ _ _ h => h) (by rfl) hS (fun w' hS' => ?ry22) ?rz22
    case ry22 =>
      have a0 := (kk.below (hB1.trans (hS'.mono (by omega))) (by omega)).cell (i := 0) rfl
      have a1 := (kk.below (hB1.trans (hS'.mono (by omega))) (by omega)).cell (i := 1) rfl
      have a2 := (kk.below (hB1.trans (hS'.mono (by omega))) (by omega)).cell (i := 2) rfl
      have b0 := (ka.below (hB1.trans (hS'.mono (by omega))) (by omega)).cell (i := 0) rfl
      have m0 := (km.below (hB1.trans (hS'.mono (by omega))) (by omega)).cell (i := 0) rfl
      have m1 := (km.below (hB1.trans (hS'.mono (by omega))) (by omega)).cell (i := 1) rfl
      have m2 := (km.below (hB1.trans (hS'.mono (by omega))) (by omega)).cell (i := 2) rfl
      have c0 := (kx.below hS' kx.lt).cell (i := 0) rfl
      have d0 := (ky.below hS' ky.lt).cell (i := 0) rfl
      have o0 := (ko.below hS' ko.lt).cell (i := 0) rfl
      have t0 := ((hB1.trans (hS'.mono (by omega))).cell (p := ⟨bt, ot + i, none⟩) hbt).trans htap
      go_simp
      rfl
    simp only [List.setIfInBounds_toArray, List.set_cons_zero, List.set_cons_succ]
    refine take_op 23 (v := ?rv23) rfl (by kernel_rfl) (fun _ _ _ h => h) (by rfl) hS (fun w' hS' => ?ry23) ?rz23
    case ry23 =>
      go_simp
      try go_ints
      rfl
    simp only [List.setIfInBounds_toArray, List.set_cons_zero, List.set_cons_succ]
    refine take_op 24 (v := ?rv24) rfl (by kernel_rfl) (fun _ _ _ h => h) (by rfl) hS (fun w' hS' => ?ry24) ?rz24
    case ry24 =>
      go_simp
      try go_ints
      rfl
    simp only [List.setIfInBounds_toArray, List.set_cons_zero, List.set_cons_succ]
    refine take_op 25 (v := ?rv25) rfl (by kernel_rfl) (fun _ _ _ h => h) (by rfl) hS (fun w' hS' => ?ry25) ?rz25
    case ry25 =>
      go_simp
      rfl
    simp only [List.setIfInBounds_toArray, List.set_cons_zero, List.set_cons_succ]
    refine take_op 26 (v := ?rv26) rfl (by kernel_rfl) (fun _ _ _ h => h) (by rfl) hS (fun w' hS' => ?ry26) ?rz26
    case ry26 =>
      go_simp
      try go_ints
      rfl
    simp only [List.setIfInBounds_toArray, List.set_cons_zero, List.set_cons_succ]
    refine step_op 27 (by kernel_rfl) rfl (fun K hK => ?_)
    rw [if_pos (by rfl)]
    go_simp
    refine (hfoH.out (x + hw - (X : Int)) (y + hh - (Y : Int)) bv _ (by omega) (by omega) (by omega) (by omega) hbvH ((hr.below (by omega) (hB1.trans (hS.mono (by omega)))).mono (by have := hS.size; omega))).mono ?_
    rintro e W1 ⟨rfl, hb1⟩
    have hS1 : Below W.heap.size W W1 := hS.trans (hb1.mono hS.size)
    refine hK.out _ _ (fun h => hS1) ?_
    clear hK K
    try simp only [Act.put, List.setIfInBounds_toArray, List.set_cons_zero, List.set_cons_succ]
    refine take_op 28 (v := ?rv28) rfl (by kernel_rfl) (fun _ _ _ h => h) (by rfl) hS1 (fun w' hS' => ?ry28) ?rz28
    case ry28 =>
      go_simp
      try go_ints
      rfl
    simp only [List.setIfInBounds_toArray, List.set_cons_zero, List.set_cons_succ]
    refine take_op 29 (v := ?rv29) rfl (by kernel_rfl) (fun _ _ _ h => h) (by rfl) hS1 (fun w' hS' => ?ry29) ?rz29
    case ry29 =>
      go_simp
      try go_ints
      rfl
    simp only [List.setIfInBounds_toArray, List.set_cons_zero, List.set_cons_succ]
    refine step_op 30 (by kernel_rfl) rfl (fun K hK => ?_)
    have k3o := ko.below hS1 ko.lt
    have o0 := k3o.cell (i := 0) rfl
    have fo0 := k3o.frozen 0
    rw [if_pos (by rfl)]
    go_simp
    refine hK.out _ _ (fun h => absurd h (by omega)) ?_
    clear hK K
    try simp only [Act.put, List.setIfInBounds_toArray, List.set_cons_zero, List.set_cons_succ]
    refine done_ops (by kernel_rfl) ?_
    have k2o := ko.below hS1 ko.lt
    have hgA : W.grownBy (W1.setCell ⟨B0 + 1 + 1, 0, none⟩ (.int .i64 (sv + tp * bv))) (some (B0 + 1 + 1)) := grown_trans (grown_of_below hS1 _) (grownBy_setCell' W1 _ _)
    exact ⟨((others_of_below hS1).trans (KeepsOthers.setCell _ _ _)).from _, hgA.block _ (by omega) (by simp), ⟨⟨kx.kept hgA (by simp <;> omega), ky.kept hgA (by simp <;> omega)⟩, by rw [hpreH.out, hsn2H.out]; exact k2o.set 0 (.int .i64 (sv + tp * bv)), Nat.le_trans hs1 hgA.size⟩, (hB1.trans (hS1.mono (by omega))).setCell (p := ⟨B0 + 1 + 1, 0, none⟩) (by simp; omega) _⟩
  case done =>
    rintro D ys W hD hys ⟨⟨⟨kx, ky⟩, ko, hs1⟩, hB1⟩ hK
    have hfin := Lib.hid (show sumL TT (ys.map Fin.val) = convG bd iw ih xs kw kh taps x y by rw [hys, sumL_range, hG.out])
    rw [hfin.out] at ko
    have c0 := ko.cell (i := 0) rfl
    gi_wp2
    refine ⟨by simp, .inl ⟨_, _, rfl, run_takeDeferred hK, ?_⟩⟩
    exact ⟨_, results_tmp rfl _ _ _, rfl, by rw [hB0]; exact hB1.trans (belowK_b (w := V0) (by omega) W D _ _ (by omega) hK rfl rfl)⟩
  case stop =>
    rintro D c pre W _ _ h _
    exact h.elim

set_option maxHeartbeats 1000000 in
theorem kernel_any (kw kh : Int) (ak : Option Addr) (ck nk : Nat) (taps : List Int) (hkn : Hid (taps.length = nk)) (r : Bool) (hres : Hid (kernOk kw kh taps = r)) (w : World) (hm : nk ≤ 9223372036854775807) (hrk : Rd w.heap.size w ak taps) :
    Calls Try.prog 113 #[imv kw kh ak nk ck] w fun e w' => e = .returned (.bool r) ∧ Below w.heap.size w w' := by
  obtain ⟨v1, hv1⟩ : ∃ v, sidesB kw kh nk = v := ⟨_, rfl⟩
  have h1 := Lib.hid hv1
  have hr2 := Lib.hid (show (v1 && allIn (-65536) 65536 taps) = r by rw [← hres.out, ← hv1]; unfold kernOk; rw [hkn.out])
  clear hv1
  have hB : Below w.heap.size w (w.alloc (.cells #[.int .i64 kw, .int .i64 kh, .slice ak nk ck] 71)) := below_al (Below.refl _ _) _
  have k := Blk.new w 71 #[.int .i64 kw, .int .i64 kh, .slice ak nk ck]
  obtain ⟨W, hW⟩ : ∃ W, w.alloc (.cells #[.int .i64 kw, .int .i64 kh, .slice ak nk ck] 71) = W := ⟨_, rfl⟩
  rw [hW] at hB k
  have m0 := k.cell (i := 0) rfl
  have m1 := k.cell (i := 1) rfl
  have m2 := k.cell (i := 2) rfl
  go_enter Try.func113, Try.ntmps113
  go_wp2_with fail
  clear hW
  refine (sides_any kw kh nk v1 h1 W).mono ?_
  rintro e W1 ⟨rfl, hb⟩
  replace k := k.below hb k.lt
  replace hB := hB.trans (hb.mono hB.size)
  clear m0 m1 m2 hb
  have m0 := k.cell (i := 0) rfl
  have m1 := k.cell (i := 1) rfl
  have m2 := k.cell (i := 2) rfl
  cases v1 with
  | false =>
    go_wp2_with fail
    go_ret
    exact ⟨ret_bool hr2.out, hB⟩
  | true =>
    go_wp2_with fail
    have hw0 := within_any (-65536) 65536 ak ck taps W1 (by rw [hkn.out]; exact hm) ((hrk.below (Nat.le_refl _) hB).mono hB.size)
    rw [hkn.out] at hw0
    refine hw0.mono ?_
    clear hw0
    rintro e w' ⟨rfl, rfl⟩
    rw [show allIn (-65536) 65536 taps = r by rw [← hr2.out]; rfl]
    go_wp2_with fail
    go_ret
    exact ⟨rfl, hB⟩

/-- What Convolve returns. -/
def convS (iw ih : Int) (xs : List Int) (kw kh : Int) (taps : List Int) (bd : Int) : ImR :=
  if vld iw ih xs = true then (if kernOk kw kh taps = true then (if decide (1 ≤ bd ∧ bd ≤ 3) = true then { w := iw, h := ih, px := img iw.toNat ih.toNat (convG bd iw ih xs kw.toNat kh.toNat taps), err := 0 } else noIm 2) else noIm 22) else noIm 20

set_option maxRecDepth 100000 in
set_option maxHeartbeats 4000000 in
theorem Convolve_any (iw ih : Int) (a : Option Addr) (c n : Nat) (xs : List Int) (hn : Hid (xs.length = n)) (kw kh : Int) (ak : Option Addr) (ck nk : Nat) (taps : List Int) (hkn : Hid (taps.length = nk)) (bd : Int) (hd1 : 0 ≤ bd) (hd2 : bd ≤ 255)
    (w : World) (hm : n ≤ 9223372036854775807) (hr : Rd w.heap.size w a xs) (hmk : nk ≤ 9223372036854775807) (hrk : Rd w.heap.size w ak taps) :
    Calls Try.prog 72 #[imv iw ih a n c, imv kw kh ak nk ck, .int .u8 bd] w (RetIm w.heap.size (convS iw ih xs kw kh taps bd) w) := by
  have hB0 : Below w.heap.size w (((w.alloc (.cells #[.int .i64 iw, .int .i64 ih, .slice a n c] 29)).alloc (.cells #[.int .i64 kw, .int .i64 kh, .slice ak nk ck] 71)).alloc (.cells #[.int .i64 0, .int .i64 0, .slice none 0 0] 29)) := below_al (below_al (below_al (Below.refl _ _) _) _) _
  obtain ⟨v0, hv⟩ : ∃ v, vld iw ih xs = v := ⟨_, rfl⟩
  have v0H := Lib.hid hv
  obtain ⟨v1, hv1⟩ : ∃ v, kernOk kw kh taps = v := ⟨_, rfl⟩
  have v1H := Lib.hid hv1
  obtain ⟨v2, hv2⟩ : ∃ v, decide (1 ≤ bd ∧ bd ≤ 3) = v := ⟨_, rfl⟩
  have v2H := Lib.hid hv2
  have hsp := Lib.hid (show convS iw ih xs kw kh taps bd = if v0 = true then (if v1 = true then (if v2 = true then { w := iw, h := ih, px := img iw.toNat ih.toNat (convG bd iw ih xs kw.toNat kh.toNat taps), err := 0 } else noIm 2) else noIm 22) else noIm 20 by unfold convS; rw [hv, hv1, hv2])
  clear hv hv1 hv2
  go_enter Try.func72, Try.ntmps72
  go_wp2_with fail
  refine (valid_any iw ih a c xs n hn _ hm ((hr.below (Nat.le_refl _) hB0).mono hB0.size)).mono ?_
  rintro e W1 ⟨rfl, hb1⟩
  rw [v0H.out]
  have hB1 : Below w.heap.size w W1 := hB0.trans (hb1.mono hB0.size)
  have k5 := (((Blk.new w 29 #[.int .i64 iw, .int .i64 ih, .slice a n c]).alloc (.cells #[.int .i64 kw, .int .i64 kh, .slice ak nk ck] 71)).alloc (.cells #[.int .i64 0, .int .i64 0, .slice none 0 0] 29)).below hb1 (by simp <;> omega)
  have k6 := ((Blk.new (w.alloc (.cells #[.int .i64 iw, .int .i64 ih, .slice a n c] 29)) 71 #[.int .i64 kw, .int .i64 kh, .slice ak nk ck]).alloc (.cells #[.int .i64 0, .int .i64 0, .slice none 0 0] 29)).below hb1 (by simp <;> omega)
  have k := (Blk.new ((w.alloc (.cells #[.int .i64 iw, .int .i64 ih, .slice a n c] 29)).alloc (.cells #[.int .i64 kw, .int .i64 kh, .slice ak nk ck] 71)) 29 #[.int .i64 0, .int .i64 0, .slice none 0 0]).below hb1 (by simp <;> omega)
  simp only [World.size_alloc] at k6 k
  clear hb1 hB0
  have m0 := k5.cell (i := 0) rfl
  have m1 := k5.cell (i := 1) rfl
  have m2 := k5.cell (i := 2) rfl
  have s0 := k6.cell (i := 0) rfl
  have s1 := k6.cell (i := 1) rfl
  have s2 := k6.cell (i := 2) rfl
  have c0 := k.cell (i := 0) rfl
  have c1 := k.cell (i := 1) rfl
  have c2 := k.cell (i := 2) rfl
  have fc0 := k.frozen 0
  have fc1 := k.frozen 1
  have fc2 := k.frozen 2
  cases v0 with
  | false =>
    go_wp2_with fail
    have kf := put3_blk k (.int .i64 0) (.int .i64 0) (.slice none 0 0)
    have g0 := kf.cell (i := 0) rfl
    have g1 := kf.cell (i := 1) rfl
    have g2 := kf.cell (i := 2) rfl
    exact bodyPost_ret (v := .tuple #[.agg #[.int .i64 0, .int .i64 0, .slice none 0 0], .int .i64 20]) (by simp [results, Try.results72, go_sem, g0, g1, g2]) rfl ⟨⟨_, by rw [hsp.out]; rfl, by rw [hsp.out]; exact OwnIm_nil _ _⟩, hB1.trans (put3_below (by omega) _ _ _)⟩
  | true =>
    go_wp2_with fail
    refine (kernel_any kw kh ak ck nk taps hkn v1 v1H W1 hmk ((hrk.below (Nat.le_refl _) hB1).mono hB1.size)).mono ?_
    rintro e W2 ⟨rfl, hb⟩
    have hB2 := hB1.trans (hb.mono hB1.size)
    clear m0 m1 m2
    replace k5 := k5.below hb k5.lt
    have m0 := k5.cell (i := 0) rfl
    have m1 := k5.cell (i := 1) rfl
    have m2 := k5.cell (i := 2) rfl
    clear s0 s1 s2
    replace k6 := k6.below hb k6.lt
    have s0 := k6.cell (i := 0) rfl
    have s1 := k6.cell (i := 1) rfl
    have s2 := k6.cell (i := 2) rfl
    clear c0 c1 c2 fc0 fc1 fc2
    replace k := k.below hb k.lt
    have c0 := k.cell (i := 0) rfl
    have c1 := k.cell (i := 1) rfl
    have c2 := k.cell (i := 2) rfl
    have fc0 := k.frozen 0
    have fc1 := k.frozen 1
    have fc2 := k.frozen 2
    clear hb hB1
    cases v1 with
    | false =>
      go_wp2_with fail
      have kf := put3_blk k (.int .i64 0) (.int .i64 0) (.slice none 0 0)
      have g0 := kf.cell (i := 0) rfl
      have g1 := kf.cell (i := 1) rfl
      have g2 := kf.cell (i := 2) rfl
      exact bodyPost_ret (v := .tuple #[.agg #[.int .i64 0, .int .i64 0, .slice none 0 0], .int .i64 22]) (by simp [results, Try.results72, go_sem, g0, g1, g2]) rfl ⟨⟨_, by rw [hsp.out]; rfl, by rw [hsp.out]; exact OwnIm_nil _ _⟩, hB2.trans (put3_below (by omega) _ _ _)⟩
    | true =>
      obtain ⟨fv, hfv⟩ : ∃ v, bordF bd = v := ⟨_, rfl⟩
      have hfvH := Lib.hid hfv
      clear hfv
      go_wp2_with fail
      refine (border_any bd hd1 hd2 fv hfvH W2).mono ?_
      rintro e W3 ⟨rfl, hb⟩
      have hB3 := hB2.trans (hb.mono hB2.size)
      clear m0 m1 m2
      replace k5 := k5.below hb k5.lt
      have m0 := k5.cell (i := 0) rfl
      have m1 := k5.cell (i := 1) rfl
      have m2 := k5.cell (i := 2) rfl
      clear s0 s1 s2
      replace k6 := k6.below hb k6.lt
      have s0 := k6.cell (i := 0) rfl
      have s1 := k6.cell (i := 1) rfl
      have s2 := k6.cell (i := 2) rfl
      clear c0 c1 c2 fc0 fc1 fc2
      replace k := k.below hb k.lt
      have c0 := k.cell (i := 0) rfl
      have c1 := k.cell (i := 1) rfl
      have c2 := k.cell (i := 2) rfl
      have fc0 := k.frozen 0
      have fc1 := k.frozen 1
      have fc2 := k.frozen 2
      have hs3 := k.lt
      clear hb hB2
      -- the function's box
      have kf := Blk.new W3 163 #[fv]
      obtain ⟨B8, hB8⟩ : ∃ B, W3.heap.size = B := ⟨_, rfl⟩
      obtain ⟨W4, hW4⟩ : ∃ W4, W3.alloc (.cells #[fv] 163) = W4 := ⟨_, rfl⟩
      have hb : Below W3.heap.size W3 W4 := alloc_below hW4
      rw [hW4, hB8] at kf
      have hB4 := hB3.trans (hb.mono hB3.size)
      have k5' := k5.below hb k5.lt
      have k6' := k6.below hb k6.lt
      have k' := k.below hb k.lt
      clear m0 m1 m2 s0 s1 s2 c0 c1 c2 fc0 fc1 fc2 k5 k6 k
      have k5 := k5'
      clear k5'
      have k6 := k6'
      clear k6'
      have k := k'
      clear k'
      have m0 := k5.cell (i := 0) rfl
      have m1 := k5.cell (i := 1) rfl
      have m2 := k5.cell (i := 2) rfl
      have s0 := k6.cell (i := 0) rfl
      have s1 := k6.cell (i := 1) rfl
      have s2 := k6.cell (i := 2) rfl
      have c0 := k.cell (i := 0) rfl
      have c1 := k.cell (i := 1) rfl
      have c2 := k.cell (i := 2) rfl
      have fc0 := k.frozen 0
      have fc1 := k.frozen 1
      have fc2 := k.frozen 2
      have f0 := kf.cell (i := 0) rfl
      cases v2 with
      | false =>
        have hfn : fv = .nilFunc := by
          have h := v2H.out
          simp only [decide_eq_false_iff_not] at h
          rw [← hfvH.out]
          unfold bordF
          rw [if_neg (by omega), if_neg (by omega), if_neg (by omega)]
        subst hfn
        subst hW4
        go_wp2_with fail
        clear hB8 hb hs3
        have kf := put3_blk k (.int .i64 0) (.int .i64 0) (.slice none 0 0)
        have g0 := kf.cell (i := 0) rfl
        have g1 := kf.cell (i := 1) rfl
        have g2 := kf.cell (i := 2) rfl
        exact bodyPost_ret (v := .tuple #[.agg #[.int .i64 0, .int .i64 0, .slice none 0 0], .int .i64 2]) (by simp [results, Try.results72, go_sem, g0, g1, g2]) rfl ⟨⟨_, by rw [hsp.out]; rfl, by rw [hsp.out]; exact OwnIm_nil _ _⟩, hB4.trans (put3_below (by omega) _ _ _)⟩
      | true =>
        have hbd := v2H.out
        simp only [decide_eq_true_eq] at hbd
        obtain ⟨⟨i1, i2⟩, ⟨i3, i4⟩, hlen, hall⟩ := vld_true v0H.out
        rw [hn.out] at hlen
        have hlenH := Lib.hid hlen
        have hallH := Lib.hid hall
        clear hlen hall
        have hk0 := v1H.out
        unfold kernOk at hk0
        rw [Bool.and_eq_true, hkn.out] at hk0
        obtain ⟨s1, s2, s3⟩ := sidesB_true hk0.1
        have htall := Lib.hid hk0.2
        clear hk0
        obtain ⟨pw, rfl⟩ : ∃ pw : Nat, iw = (pw : Int) := ⟨iw.toNat, by omega⟩
        obtain ⟨ph, rfl⟩ : ∃ ph : Nat, ih = (ph : Int) := ⟨ih.toNat, by omega⟩
        obtain ⟨tw, rfl⟩ : ∃ tw : Nat, kw = (tw : Int) := ⟨kw.toNat, by omega⟩
        obtain ⟨th, rfl⟩ : ∃ th : Nat, kh = (th : Int) := ⟨kh.toNat, by omega⟩
        have htn := Lib.hid (show tw * th = nk by
          have e : ((tw * th : Nat) : Int) = (tw : Int) * (th : Int) := by simp
          omega)
        have t1 : tw = 1 ∨ tw = 3 ∨ tw = 5 := by omega
        have t2 : th = 1 ∨ th = 3 ∨ th = 5 := by omega
        clear s1 s2 s3
        have hfo : ∃ fo : Nat, fv = .func (.func fo) #[] #[] ∧ (∀ args w, (callFunc fo args).run Try.prog w = .ok (.enter fo args) w) ∧ ∀ (u v : Int) (r : Int) (w : World), -100 ≤ u → u ≤ 100 → -100 ≤ v → v ≤ 100 → Hid (beyF bd pw ph xs u v = r) → Rd w.heap.size w a xs → Calls Try.prog fo #[imv pw ph a n c, .int .i64 u, .int .i64 v] w fun e w' => e = .returned (.int .i64 r) ∧ Below w.heap.size w w' := by
          have hbb : bd = 1 ∨ bd = 2 ∨ bd = 3 := by omega
          have hfe := hfvH.out
          rcases hbb with rfl | rfl | rfl
          · exact ⟨142, hfe.symm, enters_of Try.func142 (by kernel_rfl) rfl, fun u v r w h1 h2 h3 h4 h5 h6 => zero_any pw ph a c n xs hn u v w i1 i2 i3 i4 hlenH h1 h2 h3 h4 r h5 h6⟩
          · exact ⟨143, hfe.symm, enters_of Try.func143 (by kernel_rfl) rfl, fun u v r w h1 h2 h3 h4 h5 h6 => near_any pw ph a c n xs hn u v w i1 i2 i3 i4 hlenH h1 h2 h3 h4 r h5 h6⟩
          · exact ⟨144, hfe.symm, enters_of Try.func144 (by kernel_rfl) rfl, fun u v r w h1 h2 h3 h4 h5 h6 => wrap_any pw ph a c n xs hn u v w i1 i2 i3 i4 hlenH h1 h2 h3 h4 r h5 h6⟩
        obtain ⟨fo, rfl, eg, hfo⟩ := hfo
        have hfoH := Lib.hid hfo
        clear hfo
        go_wp2_with fail
        clear hW4 hb
        refine (made_any pw ph (by omega) (by omega) (by omega) (by omega) 115 #[.pointer (some ⟨w.heap.size + 1, 0, none⟩), .pointer (some ⟨B8, 0, none⟩), .pointer (some ⟨w.heap.size, 0, none⟩)] (enters_of Try.func115 (by kernel_rfl) rfl) (convG bd pw ph xs tw th taps) W4 (fun x y W hx hy hb => ?_)).mono ?_
        · have hBW := hB4.trans (hb.mono hB4.size)
          exact Convolve1_any bd pw ph a c n xs hn hallH tw th ak ck nk taps hkn htall t1 t2 htn fo eg hfoH.out x y _ _ _ W (by omega) (by omega) (by omega) (by omega) (k6.below hb k6.lt) (kf.below hb kf.lt) (k5.below hb k5.lt) ((hr.below (Nat.le_refl _) hBW).mono hBW.size) ((hrk.below (Nat.le_refl _) hBW).mono hBW.size)
        rintro e W5 ⟨v, rfl, ⟨s, rfl, hrow⟩, hb2⟩
        clear m0 m1 m2 s0 s1 s2 c0 c1 c2 fc0 fc1 fc2 f0
        have k2 := k.below hb2 k.lt
        have c0 := k2.cell (i := 0) rfl
        have c1 := k2.cell (i := 1) rfl
        have c2 := k2.cell (i := 2) rfl
        have fc0 := k2.frozen 0
        have fc1 := k2.frozen 1
        have fc2 := k2.frozen 2
        obtain ⟨sa, sc, rfl⟩ := row_slice hrow
        go_wp2_with fail
        have kf := put3_blk k2 (.int .i64 pw) (.int .i64 ph) (.slice sa (img pw ph (convG bd pw ph xs tw th taps)).length sc)
        have g0 := kf.cell (i := 0) rfl
        have g1 := kf.cell (i := 1) rfl
        have g2 := kf.cell (i := 2) rfl
        exact bodyPost_ret (v := .tuple #[.agg #[.int .i64 pw, .int .i64 ph, .slice sa (img pw ph (convG bd pw ph xs tw th taps)).length sc], .int .i64 0]) (by simp [results, Try.results72, go_sem, g0, g1, g2]) rfl ⟨⟨_, by rw [hsp.out]; rfl, by rw [hsp.out]; exact OwnIm.weaken ⟨_, rfl, put3_row hrow (k2.not_row (by decide) hrow) _ _ _⟩ hB4.size⟩, (hB4.trans (hb2.mono hB4.size)).trans (put3_below (by omega) _ _ _)⟩


end Go.Proofs.Ytekiemlniegddaa

namespace Go.Proofs.Ytekiemlniegddaa
open Go Go.RowKit Go.Shelf
set_option linter.unusedVariables false
set_option linter.unusedSimpArgs false

/-- A picture: sides and values. -/
structure PicN where
  w : Int
  h : Int
  px : List Int
def picAt (ms : List PicN) (i : Nat) : PicN := ms[i]?.getD ⟨0, 0, []⟩
structure StepN where
  op : Int
  a : Int
  b : Int
  pt : PointN
  how : Int
  kw : Int
  kh : Int
  taps : List Int
  bd : Int
  sw : Int
  sh : Int
  bits : List Bool
def noStep : StepN := ⟨0, 0, 0, ⟨0, 0, 0, 0, 0⟩, 0, 0, 0, [], 0, 0, 0, []⟩
def stAt (ss : List StepN) (i : Nat) : StepN := ss[i]?.getD noStep
structure PipeN where
  w : Int
  h : Int
  inp : Int
  ss : List StepN
/-- The images that a step uses. -/
def opsN (s : StepN) : List Int := if s.op = 2 ∧ s.a ≠ s.b then [s.a, s.b] else [s.a]
/-- What the operation of a step needs is valid. -/
def needB (s : StepN) : Bool :=
  if s.op = 1 then s.pt.ok else if s.op = 2 then decide (1 ≤ s.how ∧ s.how ≤ 6) else if s.op = 3 then kernOk s.kw s.kh s.taps && decide (1 ≤ s.bd ∧ s.bd ≤ 3) else if s.op = 4 ∨ s.op = 5 then shapeOk s.sw s.sh s.bits else false
/-- The images that a step uses are there. -/
def refB (inp : Int) (i : Nat) (s : StepN) : Bool := inR s.a 0 (inp + i - 1) && (!decide (s.op = 2) || inR s.b 0 (inp + i - 1))
def sizeB (P : PipeN) : Bool := (inR P.w 1 16 && inR P.h 1 16) && (inR P.inp 1 3 && (decide (1 ≤ P.ss.length) && decide (P.ss.length ≤ 12)))
def stepsB (inp : Int) (ss : List StepN) : Nat → Bool
  | 0 => true
  | k + 1 => stepsB inp ss k && (needB (stAt ss k) && refB inp k (stAt ss k))
def pipeB (P : PipeN) : Bool := sizeB P && stepsB P.inp P.ss P.ss.length
/-- The result of a step, or an error. -/
def appS (s : StepN) (ms : List PicN) : ImR :=
  if s.op = 1 then pointS (picAt ms s.a.toNat).w (picAt ms s.a.toNat).h (picAt ms s.a.toNat).px s.pt
  else if s.op = 2 then zipS (picAt ms s.a.toNat).w (picAt ms s.a.toNat).h (picAt ms s.a.toNat).px (picAt ms s.b.toNat).w (picAt ms s.b.toNat).h (picAt ms s.b.toNat).px s.how
  else if s.op = 3 then convS (picAt ms s.a.toNat).w (picAt ms s.a.toNat).h (picAt ms s.a.toNat).px s.kw s.kh s.taps s.bd
  else if s.op = 4 then morS true (picAt ms s.a.toNat).w (picAt ms s.a.toNat).h (picAt ms s.a.toNat).px s.sw s.sh s.bits
  else if s.op = 5 then morS false (picAt ms s.a.toNat).w (picAt ms s.a.toNat).h (picAt ms s.a.toNat).px s.sw s.sh s.bits
  else noIm 30
def resN (r : ImR) : PicN := ⟨r.w, r.h, r.px⟩
/-- All images behind k steps. -/
def afterN (ss : List StepN) (ms : List PicN) : Nat → List PicN
  | 0 => ms
  | k + 1 => afterN ss ms k ++ [resN (appS (stAt ss k) (afterN ss ms k))]
theorem afterN_length (ss : List StepN) (ms : List PicN) : ∀ k, (afterN ss ms k).length = ms.length + k
  | 0 => rfl
  | k + 1 => by rw [afterN, List.length_append, afterN_length ss ms k]; rfl
/-- So many images, all valid and of a size. -/
def givenB (ms : List PicN) (n w h : Int) : Bool := decide ((ms.length : Int) = n) && ms.all (fun m => vld m.w m.h m.px && (decide (m.w = w) && decide (m.h = h)))
def meanN (P : PipeN) (ms : List PicN) : PicN := picAt (afterN P.ss ms P.ss.length) (ms.length + P.ss.length - 1)
def meanS (P : PipeN) (ms : List PicN) : ImR :=
  if pipeB P = true then (if givenB ms P.inp P.w P.h = true then { w := (meanN P ms).w, h := (meanN P ms).h, px := (meanN P ms).px, err := 0 } else noIm 2) else noIm 30
def onePic : PicN := ⟨1, 1, [0]⟩
/-- A step asked of a single image of one pixel tells what it needs. -/
theorem app_one (s : StepN) : (appS { s with a := 0, b := 0 } [onePic]).err = 0 ↔ needB s = true := by
  have hv : vld 1 1 [0] = true := by decide
  unfold appS needB
  simp only [picAt, onePic, Int.toNat_zero, List.getElem?_cons_zero, Option.getD_some]
  by_cases h1 : s.op = 1
  · rw [if_pos h1, if_pos h1]; unfold pointS; rw [if_pos hv]; split <;> simp_all [noIm]
  rw [if_neg h1, if_neg h1]
  by_cases h2 : s.op = 2
  · rw [if_pos h2, if_pos h2]; unfold zipS; rw [if_pos hv, if_pos hv, if_pos (by decide)]; split <;> simp_all [noIm]
  rw [if_neg h2, if_neg h2]
  by_cases h3 : s.op = 3
  · rw [if_pos h3, if_pos h3]; unfold convS; rw [if_pos hv]; split
    · split <;> simp_all [noIm]
    · simp_all [noIm]
  rw [if_neg h3, if_neg h3]
  by_cases h4 : s.op = 4
  · rw [if_pos h4, if_pos (.inl h4)]; unfold morS; rw [if_pos hv]; split <;> simp_all [noIm]
  rw [if_neg h4]
  by_cases h5 : s.op = 5
  · rw [if_pos h5, if_pos (.inr h5)]; unfold morS; rw [if_pos hv]; split <;> simp_all [noIm]
  rw [if_neg h5, if_neg (by rintro (h | h); exact h4 h; exact h5 h)]
  simp [noIm]
end Go.Proofs.Ytekiemlniegddaa

namespace Go.Proofs.Ytekiemlniegddaa
open Go Go.RowKit Go.Shelf
set_option linter.unusedVariables false
set_option linter.unusedSimpArgs false

/-- The slice at 'a' reads as the images 'ms', in blocks below 'B'. -/
def RdPs (B : Nat) (W : World) (a : Option Addr) (ms : List PicN) : Prop :=
  ms = [] ∨ ∃ b o, a = some ⟨b, o, none⟩ ∧ b < B ∧ ∀ i, i < ms.length → ∃ pa pc, W.cell? ⟨b, o + i * 3, none⟩ = some (.int .i64 (picAt ms i).w) ∧ W.cell? ⟨b, o + i * 3 + 1, none⟩ = some (.int .i64 (picAt ms i).h) ∧
    W.cell? ⟨b, o + i * 3 + 2, none⟩ = some (.slice pa (picAt ms i).px.length pc) ∧ Rd B W pa (picAt ms i).px ∧ (pa = none → pc = 0)
theorem RdPs.below {B B' : Nat} {W W' : World} {a : Option Addr} {ms : List PicN} (h : RdPs B W a ms) (hB : B ≤ B') (hb : Below B' W W') : RdPs B W' a ms := by
  rcases h with h | ⟨b, o, h1, h2, h3⟩
  · exact .inl h
  · refine .inr ⟨b, o, h1, h2, fun i hi => ?_⟩
    obtain ⟨pa, pc, e1, e2, e3, e4, e5⟩ := h3 i hi
    exact ⟨pa, pc, (hb.cell (p := ⟨b, o + i * 3, none⟩) (by show b < B'; omega)).trans e1, (hb.cell (p := ⟨b, o + i * 3 + 1, none⟩) (by show b < B'; omega)).trans e2, (hb.cell (p := ⟨b, o + i * 3 + 2, none⟩) (by show b < B'; omega)).trans e3, e4.below hB hb, e5⟩
theorem RdPs.mono {B B' : Nat} {W : World} {a : Option Addr} {ms : List PicN} (h : RdPs B W a ms) (hB : B ≤ B') : RdPs B' W a ms := by
  rcases h with h | ⟨b, o, h1, h2, h3⟩
  · exact .inl h
  · refine .inr ⟨b, o, h1, by omega, fun i hi => ?_⟩
    obtain ⟨pa, pc, e1, e2, e3, e4, e5⟩ := h3 i hi
    exact ⟨pa, pc, e1, e2, e3, e4.mono hB, e5⟩
theorem RdPs.later {W W' : World} {a : Option Addr} {ms : List PicN} (h : RdPs W.heap.size W a ms) (hb : Below W.heap.size W W') : RdPs W'.heap.size W' a ms := (h.below (Nat.le_refl _) hb).mono hb.size
theorem RdPs.at {B : Nat} {W : World} {a : Option Addr} {ms : List PicN} (h : RdPs B W a ms) {i : Nat} (hi : i < ms.length) :
    ∃ b o, a = some ⟨b, o, none⟩ ∧ b < B ∧ ∃ pa pc, W.cell? ⟨b, o + i * 3, none⟩ = some (.int .i64 (picAt ms i).w) ∧ W.cell? ⟨b, o + i * 3 + 1, none⟩ = some (.int .i64 (picAt ms i).h) ∧
      W.cell? ⟨b, o + i * 3 + 2, none⟩ = some (.slice pa (picAt ms i).px.length pc) ∧ Rd B W pa (picAt ms i).px ∧ (pa = none → pc = 0) := by
  rcases h with h | ⟨b, o, h1, h2, h3⟩
  · subst h; simp at hi
  · obtain ⟨pa, pc, e⟩ := h3 i hi
    exact ⟨b, o, h1, h2, pa, pc, e⟩

/-- The cells of a step. -/
def stepCells (s : StepN) (ka : Option Addr) (kc : Nat) (sa : Option Addr) (sc : Nat) : List Value :=
  [.int .u8 s.op, .int .i64 s.a, .int .i64 s.b, .int .i64 s.pt.mul, .int .i64 s.pt.add, .int .i64 s.pt.div, .int .i64 s.pt.lo, .int .i64 s.pt.hi, .int .u8 s.how, .int .i64 s.kw, .int .i64 s.kh, .slice ka s.taps.length kc, .int .u8 s.bd, .int .i64 s.sw, .int .i64 s.sh, .slice sa s.bits.length sc]
/-- The step's cells stand at a place, and its lists can be read. -/
structure StAt (B : Nat) (W : World) (b o : Nat) (s : StepN) (ka : Option Addr) (kc : Nat) (sa : Option Addr) (sc : Nat) : Prop where
  cell : ∀ j v, (stepCells s ka kc sa sc)[j]? = some v → W.cell? ⟨b, o + j, none⟩ = some v
  taps : Rd B W ka s.taps
  bits : RdB B W sa s.bits
theorem StAt.below {B B' : Nat} {W W' : World} {b o : Nat} {s : StepN} {ka sa : Option Addr} {kc sc : Nat} (h : StAt B W b o s ka kc sa sc) (hbB : b < B') (hB : B ≤ B') (hb : Below B' W W') : StAt B W' b o s ka kc sa sc :=
  ⟨fun j v hv => (hb.cell (p := ⟨b, o + j, none⟩) hbB).trans (h.cell j v hv), h.taps.below hB hb, h.bits.below hB hb⟩
/-- The slice at 'a' reads as the steps 'ss'. -/
def RdSs (B : Nat) (W : World) (a : Option Addr) (ss : List StepN) : Prop :=
  ss = [] ∨ ∃ b o, a = some ⟨b, o, none⟩ ∧ b < B ∧ ∀ i, i < ss.length → ∃ ka kc sa sc, StAt B W b (o + i * 16) (stAt ss i) ka kc sa sc
theorem RdSs.below {B B' : Nat} {W W' : World} {a : Option Addr} {ss : List StepN} (h : RdSs B W a ss) (hB : B ≤ B') (hb : Below B' W W') : RdSs B W' a ss := by
  rcases h with h | ⟨b, o, h1, h2, h3⟩
  · exact .inl h
  · refine .inr ⟨b, o, h1, h2, fun i hi => ?_⟩
    obtain ⟨ka, kc, sa, sc, e⟩ := h3 i hi
    exact ⟨ka, kc, sa, sc, e.below (by omega) hB hb⟩
theorem StAt.mono {B B' : Nat} {W : World} {b o : Nat} {s : StepN} {ka sa : Option Addr} {kc sc : Nat} (h : StAt B W b o s ka kc sa sc) (hB : B ≤ B') : StAt B' W b o s ka kc sa sc := ⟨h.cell, h.taps.mono hB, h.bits.mono hB⟩
theorem RdSs.mono {B B' : Nat} {W : World} {a : Option Addr} {ss : List StepN} (h : RdSs B W a ss) (hB : B ≤ B') : RdSs B' W a ss := by
  rcases h with h | ⟨b, o, h1, h2, h3⟩
  · exact .inl h
  · refine .inr ⟨b, o, h1, by omega, fun i hi => ?_⟩
    obtain ⟨ka, kc, sa, sc, e⟩ := h3 i hi
    exact ⟨ka, kc, sa, sc, e.mono hB⟩
theorem RdSs.later {W W' : World} {a : Option Addr} {ss : List StepN} (h : RdSs W.heap.size W a ss) (hb : Below W.heap.size W W') : RdSs W'.heap.size W' a ss := (h.below (Nat.le_refl _) hb).mono hb.size
end Go.Proofs.Ytekiemlniegddaa
