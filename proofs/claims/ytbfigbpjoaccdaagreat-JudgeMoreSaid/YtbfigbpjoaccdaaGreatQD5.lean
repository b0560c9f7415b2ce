/- Contracts and laws (ImgJ). -/
import Derived.Test.YtbfigbpjoaccdaaGreatQD4
namespace Go.Proofs.YtbfigbpjoaccdaaGreat
open Go Go.RowKit Go.Shelf
set_option linter.unusedVariables false
set_option linter.unusedSimpArgs false

theorem Check_any (iw ih : Int) (a : Option Addr) (c n : Nat) (xs : List Int) (hn : Hid (xs.length = n)) (v : Bool) (hv : vld iw ih xs = v) (w : World) (hm : n ≤ 9223372036854775807) (hr : Rd w.heap.size w a xs) :
    Calls Tryz.prog 94 #[imv iw ih a n c] w fun e w' => e = .returned (.int .i64 (if v = true then 0 else 20)) ∧ Below w.heap.size w w' := by
  have hvH := Lib.hid hv
  clear hv
  have hB0 : Below w.heap.size w (w.alloc (.cells #[.int .i64 iw, .int .i64 ih, .slice a n c] 27)) := below_al (Below.refl _ _) _
  go_enter Tryz.func94, Tryz.ntmps94
  go_wp2_with fail
  refine (valid_any iw ih a c xs n hn _ hm ((hr.below (Nat.le_refl _) hB0).mono hB0.size)).mono ?_
  rintro e W1 ⟨rfl, hb1⟩
  rw [hvH.out]
  cases v with
  | false =>
    go_wp2_with fail
    go_ret
    exact ⟨rfl, hB0.trans (hb1.mono hB0.size)⟩
  | true =>
    go_wp2_with fail
    go_ret
    exact ⟨rfl, hB0.trans (hb1.mono hB0.size)⟩

/-- What an operation of two values gives. -/
def zipF (how a b : Int) : Int := if how = 1 then a + b else if how = 2 then a - b else if how = 3 then min a b else if how = 4 then max a b else if how = 5 then a * b else max (a - b) (b - a)
def zipG (iw : Int) (xs ys : List Int) (how x y : Int) : Int := zipF how (px xs (y * iw + x)) (px ys (y * iw + x))
theorem clamp_bd (n : Int) : -2147483648 ≤ clamp n (-2147483648) 2147483648 ∧ clamp n (-2147483648) 2147483648 ≤ 2147483648 := clamp_le (by decide)

abbrev opsv : Array Value := #[.nilFunc, .func (.func 114) #[] #[], .func (.func 115) #[] #[], .func (.func 116) #[] #[], .func (.func 117) #[] #[], .func (.func 118) #[] #[], .func (.func 119) #[] #[]]

theorem operations_any (w : World) : Calls Tryz.prog 75 #[] w fun e w' => e = .returned (.agg opsv) ∧ Below w.heap.size w w' := by
  go_enter Tryz.func75, Tryz.ntmps75
  go_wp2_with fail
  have k := Blk.new w 134 opsv
  have g0 := k.cell (i := 0) rfl
  have g1 := k.cell (i := 1) rfl
  have g2 := k.cell (i := 2) rfl
  have g3 := k.cell (i := 3) rfl
  have g4 := k.cell (i := 4) rfl
  have g5 := k.cell (i := 5) rfl
  have g6 := k.cell (i := 6) rfl
  exact bodyPost_ret (v := .agg opsv) (by simp [results, Tryz.results75, go_sem, g0, g1, g2, g3, g4, g5, g6]) rfl ⟨rfl, below_al (Below.refl _ _) _⟩

theorem oper1_any (a b : Int) (h1 : -2147483648 ≤ a) (h2 : a ≤ 2147483648) (h3 : -2147483648 ≤ b) (h4 : b ≤ 2147483648) (w : World) : Calls Tryz.prog 114 #[.int .i64 a, .int .i64 b] w fun e w' => e = .returned (.int .i64 (zipF 1 a b)) ∧ w = w' := by
  go_enter Tryz.func114, Tryz.ntmps114
  go_wp2_with fail
  all_goals go_ret
  all_goals exact ⟨ret_int (by simp [zipF] <;> omega), rfl⟩

theorem oper2_any (a b : Int) (h1 : -2147483648 ≤ a) (h2 : a ≤ 2147483648) (h3 : -2147483648 ≤ b) (h4 : b ≤ 2147483648) (w : World) : Calls Tryz.prog 115 #[.int .i64 a, .int .i64 b] w fun e w' => e = .returned (.int .i64 (zipF 2 a b)) ∧ w = w' := by
  go_enter Tryz.func115, Tryz.ntmps115
  go_wp2_with fail
  all_goals go_ret
  all_goals exact ⟨ret_int (by simp [zipF] <;> omega), rfl⟩

theorem oper3_any (a b : Int) (h1 : -2147483648 ≤ a) (h2 : a ≤ 2147483648) (h3 : -2147483648 ≤ b) (h4 : b ≤ 2147483648) (w : World) : Calls Tryz.prog 116 #[.int .i64 a, .int .i64 b] w fun e w' => e = .returned (.int .i64 (zipF 3 a b)) ∧ w = w' := by
  go_enter Tryz.func116, Tryz.ntmps116
  go_wp2_with fail
  all_goals go_ret
  all_goals exact ⟨ret_int (by simp [zipF] <;> omega), rfl⟩

theorem oper4_any (a b : Int) (h1 : -2147483648 ≤ a) (h2 : a ≤ 2147483648) (h3 : -2147483648 ≤ b) (h4 : b ≤ 2147483648) (w : World) : Calls Tryz.prog 117 #[.int .i64 a, .int .i64 b] w fun e w' => e = .returned (.int .i64 (zipF 4 a b)) ∧ w = w' := by
  go_enter Tryz.func117, Tryz.ntmps117
  go_wp2_with fail
  all_goals go_ret
  all_goals exact ⟨ret_int (by simp [zipF] <;> omega), rfl⟩

theorem oper5_any (a b : Int) (h1 : -2147483648 ≤ a) (h2 : a ≤ 2147483648) (h3 : -2147483648 ≤ b) (h4 : b ≤ 2147483648) (w : World) : Calls Tryz.prog 118 #[.int .i64 a, .int .i64 b] w fun e w' => e = .returned (.int .i64 (zipF 5 a b)) ∧ w = w' := by
  obtain ⟨r1, r2⟩ := mul_bd h1 h2 h3 h4 (by omega) (by omega)
  go_enter Tryz.func118, Tryz.ntmps118
  go_wp2_with fail
  all_goals go_ret
  all_goals exact ⟨ret_int (by simp [zipF] <;> omega), rfl⟩

theorem oper6_any (a b : Int) (h1 : -2147483648 ≤ a) (h2 : a ≤ 2147483648) (h3 : -2147483648 ≤ b) (h4 : b ≤ 2147483648) (w : World) : Calls Tryz.prog 119 #[.int .i64 a, .int .i64 b] w fun e w' => e = .returned (.int .i64 (zipF 6 a b)) ∧ w = w' := by
  go_enter Tryz.func119, Tryz.ntmps119
  go_wp2_with fail
  all_goals go_ret
  all_goals exact ⟨ret_int (by simp [zipF] <;> omega), rfl⟩

set_option maxRecDepth 100000 in
set_option maxHeartbeats 1000000 in
theorem Zip1_1 (iw ih : Int) (a a' : Option Addr) (c c' n : Nat) (xs ys : List Int) (hn : Hid (xs.length = n)) (hn' : Hid (ys.length = n)) (hall : Hid (allIn (-2147483648) 2147483648 xs = true)) (hall' : Hid (allIn (-2147483648) 2147483648 ys = true)) (x y : Int) (b8 b7 b6 b5 : Nat) (W : World) (hi1 : 1 ≤ iw) (hi2 : iw ≤ 16) (hi3 : 1 ≤ ih) (hi4 : ih ≤ 16) (hnn : Hid ((n : Int) = iw * ih)) (hx1 : 0 ≤ x) (hx2 : x ≤ iw - 1) (hy1 : 0 ≤ y) (hy2 : y ≤ ih - 1)
    (k8 : Blk W b8 134 opsv) (k7 : Blk W b7 5 #[.int .u8 1]) (k6 : Blk W b6 27 #[.int .i64 iw, .int .i64 ih, .slice a' n c']) (k5 : Blk W b5 27 #[.int .i64 iw, .int .i64 ih, .slice a n c]) (hr : Rd W.heap.size W a xs) (hr' : Rd W.heap.size W a' ys) :
    Calls Tryz.prog 78 #[.int .i64 x, .int .i64 y, .pointer (some ⟨b8, 0, none⟩), .pointer (some ⟨b7, 0, none⟩), .pointer (some ⟨b5, 0, none⟩), .pointer (some ⟨b6, 0, none⟩)] W fun e W' => e = .returned (.int .i64 (zipG iw xs ys 1 x y)) ∧ Below W.heap.size W W' := by
  obtain ⟨m1, m2⟩ := mul_small (a := iw) (b := ih) (by omega) hi2 (by omega) hi4
  obtain ⟨q1, q2, q3, q4⟩ := in_idx (u := x) (v := y) hi1 hnn.out hx1 hx2 hy1 hy2
  have hn9 : n ≤ 256 := by have := hnn.out; omega
  obtain ⟨v, hv⟩ : ∃ v, px xs (y * iw + x) = v := ⟨_, rfl⟩
  obtain ⟨u, hu⟩ : ∃ u, px ys (y * iw + x) = u := ⟨_, rfl⟩
  obtain ⟨vb1, vb2⟩ := px_bd hall.out (y * iw + x)
  obtain ⟨ub1, ub2⟩ := px_bd hall'.out (y * iw + x)
  rw [hv] at vb1 vb2
  rw [hu] at ub1 ub2
  have hvH := Lib.hid hv
  have huH := Lib.hid hu
  clear hv hu
  have hS : Below W.heap.size W W.drew := (Below.refl _ _).drew
  go_enter Tryz.func78, Tryz.ntmps78
  go_wp2_with fail
  refine plain_region (fun W' => Below W.heap.size W W') 14 14 (by kernel_rfl) rfl ?_
  simp only [Array.replicate_succ, Array.replicate_zero, List.push_toArray, List.nil_append, List.cons_append]
  refine take_op 0 (v := ?rv0) rfl (by kernel_rfl) (fun _ _ _ h => h) (by rfl) hS (fun w' hS' => ?ry0) ?rz0
  case ry0 =>
    have b0 := (k5.below hS' k5.lt).cell (i := 0) rfl
    have b1 := (k5.below hS' k5.lt).cell (i := 1) rfl
    have b2 := (k5.below hS' k5.lt).cell (i := 2) rfl
    have e0 := (k6.below hS' k6.lt).cell (i := 0) rfl
    have e1 := (k6.below hS' k6.lt).cell (i := 1) rfl
    have e2 := (k6.below hS' k6.lt).cell (i := 2) rfl
    have h0 := (k7.below hS' k7.lt).cell (i := 0) rfl
    have l0 := (k8.below hS' k8.lt).cell (i := 0) rfl
    have l1 := (k8.below hS' k8.lt).cell (i := 1) rfl
    have l2 := (k8.below hS' k8.lt).cell (i := 2) rfl
    have l3 := (k8.below hS' k8.lt).cell (i := 3) rfl
    have l4 := (k8.below hS' k8.lt).cell (i := 4) rfl
    have l5 := (k8.below hS' k8.lt).cell (i := 5) rfl
    have l6 := (k8.below hS' k8.lt).cell (i := 6) rfl
    go_simp
    rfl
  simp only [List.setIfInBounds_toArray, List.set_cons_zero, List.set_cons_succ]
  refine take_op 1 (v := ?rv1) rfl (by kernel_rfl) (fun _ _ _ h => h) (by rfl) hS (fun w' hS' => ?ry1) ?rz1
  case ry1 =>
    go_simp
    try go_ints
    rfl
  simp only [List.setIfInBounds_toArray, List.set_cons_zero, List.set_cons_succ]
  refine take_op 2 (v := ?rv2) rfl (by kernel_rfl) (fun _ _ _ h => h) (by rfl) hS (fun w' hS' => ?ry2) ?rz2
  case ry2 =>
    go_simp
    rfl
  simp only [List.setIfInBounds_toArray, List.set_cons_zero, List.set_cons_succ]
  refine take_op 3 (v := ?rv3) rfl (by kernel_rfl) (fun _ _ _ h => h) (by rfl) hS (fun w' hS' => ?ry3) ?rz3
  case ry3 =>
    have b0 := (k5.below hS' k5.lt).cell (i := 0) rfl
    have b1 := (k5.below hS' k5.lt).cell (i := 1) rfl
    have b2 := (k5.below hS' k5.lt).cell (i := 2) rfl
    have e0 := (k6.below hS' k6.lt).cell (i := 0) rfl
    have e1 := (k6.below hS' k6.lt).cell (i := 1) rfl
    have e2 := (k6.below hS' k6.lt).cell (i := 2) rfl
    have h0 := (k7.below hS' k7.lt).cell (i := 0) rfl
    have l0 := (k8.below hS' k8.lt).cell (i := 0) rfl
    have l1 := (k8.below hS' k8.lt).cell (i := 1) rfl
    have l2 := (k8.below hS' k8.lt).cell (i := 2) rfl
    have l3 := (k8.below hS' k8.lt).cell (i := 3) rfl
    have l4 := (k8.below hS' k8.lt).cell (i := 4) rfl
    have l5 := (k8.below hS' k8.lt).cell (i := 5) rfl
    have l6 := (k8.below hS' k8.lt).cell (i := 6) rfl
    go_simp
    rfl
  simp only [List.setIfInBounds_toArray, List.set_cons_zero, List.set_cons_succ]
  refine take_op 4 (v := ?rv4) rfl (by kernel_rfl) (fun _ _ _ h => h) (by rfl) hS (fun w' hS' => ?ry4) ?rz4
  case ry4 =>
    have b0 := (k5.below hS' k5.lt).cell (i := 0) rfl
    have b1 := (k5.below hS' k5.lt).cell (i := 1) rfl
    have b2 := (k5.below hS' k5.lt).cell (i := 2) rfl
    have e0 := (k6.below hS' k6.lt).cell (i := 0) rfl
    have e1 := (k6.below hS' k6.lt).cell (i := 1) rfl
    have e2 := (k6.below hS' k6.lt).cell (i := 2) rfl
    have h0 := (k7.below hS' k7.lt).cell (i := 0) rfl
    have l0 := (k8.below hS' k8.lt).cell (i := 0) rfl
    have l1 := (k8.below hS' k8.lt).cell (i := 1) rfl
    have l2 := (k8.below hS' k8.lt).cell (i := 2) rfl
    have l3 := (k8.below hS' k8.lt).cell (i := 3) rfl
    have l4 := (k8.below hS' k8.lt).cell (i := 4) rfl
    have l5 := (k8.below hS' k8.lt).cell (i := 5) rfl
    have l6 := (k8.below hS' k8.lt).cell (i := 6) rfl
    go_simp
    rfl
  simp only [List.setIfInBounds_toArray, List.set_cons_zero, List.set_cons_succ]
  refine take_op 5 (v := ?rv5) rfl (by kernel_rfl) (fun _ _ _ h => h) (by rfl) hS (fun w' hS' => ?ry5) ?rz5
  case ry5 =>
    go_simp
    rfl
  simp only [List.setIfInBounds_toArray, List.set_cons_zero, List.set_cons_succ]
  refine take_op 6 (v := ?rv6) rfl (by kernel_rfl) (fun _ _ _ h => h) (by rfl) hS (fun w' hS' => ?ry6) ?rz6
  case ry6 =>
    go_simp
    rfl
  simp only [List.setIfInBounds_toArray, List.set_cons_zero, List.set_cons_succ]
  refine take_op 8 (v := ?rv8) rfl (by kernel_rfl) (fun _ _ _ h => h) (by rfl) hS (fun w' hS' => ?ry8) ?rz8
  case ry8 =>
    have b0 := (k5.below hS' k5.lt).cell (i := 0) rfl
    have b1 := (k5.below hS' k5.lt).cell (i := 1) rfl
    have b2 := (k5.below hS' k5.lt).cell (i := 2) rfl
    have e0 := (k6.below hS' k6.lt).cell (i := 0) rfl
    have e1 := (k6.below hS' k6.lt).cell (i := 1) rfl
    have e2 := (k6.below hS' k6.lt).cell (i := 2) rfl
    have h0 := (k7.below hS' k7.lt).cell (i := 0) rfl
    have l0 := (k8.below hS' k8.lt).cell (i := 0) rfl
    have l1 := (k8.below hS' k8.lt).cell (i := 1) rfl
    have l2 := (k8.below hS' k8.lt).cell (i := 2) rfl
    have l3 := (k8.below hS' k8.lt).cell (i := 3) rfl
    have l4 := (k8.below hS' k8.lt).cell (i := 4) rfl
    have l5 := (k8.below hS' k8.lt).cell (i := 5) rfl
    have l6 := (k8.below hS' k8.lt).cell (i := 6) rfl
    go_simp
    rfl
  simp only [List.setIfInBounds_toArray, List.set_cons_zero, List.set_cons_succ]
  refine take_op 9 (v := ?rv9) rfl (by kernel_rfl) (fun _ _ _ h => h) (by rfl) hS (fun w' hS' => ?ry9) ?rz9
  case ry9 =>
    go_simp
    rfl
  simp only [List.setIfInBounds_toArray, List.set_cons_zero, List.set_cons_succ]
  refine take_op 10 (v := ?rv10) rfl (by kernel_rfl) (fun _ _ _ h => h) (by rfl) hS (fun w' hS' => ?ry10) ?rz10
  case ry10 =>
    go_simp
    rfl
  simp only [List.setIfInBounds_toArray, List.set_cons_zero, List.set_cons_succ]
  refine step_op 7 (by kernel_rfl) rfl (fun K hK => ?_)
  rw [if_pos (by rfl)]
  go_simp
  refine (at_any iw ih x y a c xs n hn _ (Int.le_trans (by decide) q1) (Int.le_trans (Int.le_of_lt q4) (by omega)) q2 q3 (by omega) ((hr.below (Nat.le_refl _) hS).mono hS.size)).mono ?_
  rintro e W1 ⟨rfl, hb2⟩
  rw [hvH.out]
  have hS1 : Below W.heap.size W W1 := hS.trans (hb2.mono hS.size)
  refine hK.out _ _ (fun h => hS1) ?_
  clear hK K
  try simp only [Act.put, List.setIfInBounds_toArray, List.set_cons_zero, List.set_cons_succ]
  refine step_op 11 (by kernel_rfl) rfl (fun K hK => ?_)
  rw [if_pos (by rfl)]
  go_simp
  refine (at_any iw ih x y a' c' ys n hn' _ (Int.le_trans (by decide) q1) (Int.le_trans (Int.le_of_lt q4) (by omega)) q2 q3 (by omega) ((hr'.below (Nat.le_refl _) hS1).mono hS1.size)).mono ?_
  rintro e W2 ⟨rfl, hb3⟩
  rw [huH.out]
  have hS2 : Below W.heap.size W W2 := hS1.trans (hb3.mono hS1.size)
  refine hK.out _ _ (fun h => hS2) ?_
  clear hK K
  try simp only [Act.put, List.setIfInBounds_toArray, List.set_cons_zero, List.set_cons_succ]
  refine step_op 12 (by kernel_rfl) rfl (fun K hK => ?_)
  rw [if_pos (by rfl)]
  go_simp
  refine (oper1_any v u vb1 vb2 ub1 ub2 _).mono ?_
  rintro e W3 ⟨rfl, rfl⟩
  refine hK.out _ _ (fun h => hS2) ?_
  clear hK K
  try simp only [Act.put, List.setIfInBounds_toArray, List.set_cons_zero, List.set_cons_succ]
  refine take_op 13 (v := ?rv13) rfl (by kernel_rfl) (fun _ _ _ h => h) (by rfl) hS2 (fun w' hS' => ?ry13) ?rz13
  case ry13 =>
    go_simp
    rfl
  simp only [List.setIfInBounds_toArray, List.set_cons_zero, List.set_cons_succ]
  refine done_ops (by kernel_rfl) ?_
  go_wp2_with fail
  go_ret
  exact ⟨ret_int (by unfold zipG; rw [hvH.out, huH.out]), hS2⟩

set_option maxRecDepth 100000 in
set_option maxHeartbeats 1000000 in
theorem Zip1_2 (iw ih : Int) (a a' : Option Addr) (c c' n : Nat) (xs ys : List Int) (hn : Hid (xs.length = n)) (hn' : Hid (ys.length = n)) (hall : Hid (allIn (-2147483648) 2147483648 xs = true)) (hall' : Hid (allIn (-2147483648) 2147483648 ys = true)) (x y : Int) (b8 b7 b6 b5 : Nat) (W : World) (hi1 : 1 ≤ iw) (hi2 : iw ≤ 16) (hi3 : 1 ≤ ih) (hi4 : ih ≤ 16) (hnn : Hid ((n : Int) = iw * ih)) (hx1 : 0 ≤ x) (hx2 : x ≤ iw - 1) (hy1 : 0 ≤ y) (hy2 : y ≤ ih - 1)
    (k8 : Blk W b8 134 opsv) (k7 : Blk W b7 5 #[.int .u8 2]) (k6 : Blk W b6 27 #[.int .i64 iw, .int .i64 ih, .slice a' n c']) (k5 : Blk W b5 27 #[.int .i64 iw, .int .i64 ih, .slice a n c]) (hr : Rd W.heap.size W a xs) (hr' : Rd W.heap.size W a' ys) :
    Calls Tryz.prog 78 #[.int .i64 x, .int .i64 y, .pointer (some ⟨b8, 0, none⟩), .pointer (some ⟨b7, 0, none⟩), .pointer (some ⟨b5, 0, none⟩), .pointer (some ⟨b6, 0, none⟩)] W fun e W' => e = .returned (.int .i64 (zipG iw xs ys 2 x y)) ∧ Below W.heap.size W W' := by
  obtain ⟨m1, m2⟩ := mul_small (a := iw) (b := ih) (by omega) hi2 (by omega) hi4
  obtain ⟨q1, q2, q3, q4⟩ := in_idx (u := x) (v := y) hi1 hnn.out hx1 hx2 hy1 hy2
  have hn9 : n ≤ 256 := by have := hnn.out; omega
  obtain ⟨v, hv⟩ : ∃ v, px xs (y * iw + x) = v := ⟨_, rfl⟩
  obtain ⟨u, hu⟩ : ∃ u, px ys (y * iw + x) = u := ⟨_, rfl⟩
  obtain ⟨vb1, vb2⟩ := px_bd hall.out (y * iw + x)
  obtain ⟨ub1, ub2⟩ := px_bd hall'.out (y * iw + x)
  rw [hv] at vb1 vb2
  rw [hu] at ub1 ub2
  have hvH := Lib.hid hv
  have huH := Lib.hid hu
  clear hv hu
  have hS : Below W.heap.size W W.drew := (Below.refl _ _).drew
  go_enter Tryz.func78, Tryz.ntmps78
  go_wp2_with fail
  refine plain_region (fun W' => Below W.heap.size W W') 14 14 (by kernel_rfl) rfl ?_
  simp only [Array.replicate_succ, Array.replicate_zero, List.push_toArray, List.nil_append, List.cons_append]
  refine take_op 0 (v := ?rv0) rfl (by kernel_rfl) (fun _ _ _ h => h) (by rfl) hS (fun w' hS' => ?ry0) ?rz0
  case ry0 =>
    have b0 := (k5.below hS' k5.lt).cell (i := 0) rfl
    have b1 := (k5.below hS' k5.lt).cell (i := 1) rfl
    have b2 := (k5.below hS' k5.lt).cell (i := 2) rfl
    have e0 := (k6.below hS' k6.lt).cell (i := 0) rfl
    have e1 := (k6.below hS' k6.lt).cell (i := 1) rfl
    have e2 := (k6.below hS' k6.lt).cell (i := 2) rfl
    have h0 := (k7.below hS' k7.lt).cell (i := 0) rfl
    have l0 := (k8.below hS' k8.lt).cell (i := 0) rfl
    have l1 := (k8.below hS' k8.lt).cell (i := 1) rfl
    have l2 := (k8.below hS' k8.lt).cell (i := 2) rfl
    have l3 := (k8.below hS' k8.lt).cell (i := 3) rfl
    have l4 := (k8.below hS' k8.lt).cell (i := 4) rfl
    have l5 := (k8.below hS' k8.lt).cell (i := 5) rfl
    have l6 := (k8.below hS' k8.lt).cell (i := 6) rfl
    go_simp
    rfl
  simp only [List.setIfInBounds_toArray, List.set_cons_zero, List.set_cons_succ]
  refine take_op 1 (v := ?rv1) rfl (by kernel_rfl) (fun _ _ _ h => h) (by rfl) hS (fun w' hS' => ?ry1) ?rz1
  case ry1 =>
    go_simp
    try go_ints
    rfl
  simp only [List.setIfInBounds_toArray, List.set_cons_zero, List.set_cons_succ]
  refine take_op 2 (v := ?rv2) rfl (by kernel_rfl) (fun _ _ _ h => h) (by rfl) hS (fun w' hS' => ?ry2) ?rz2
  case ry2 =>
    go_simp
    rfl
  simp only [List.setIfInBounds_toArray, List.set_cons_zero, List.set_cons_succ]
  refine take_op 3 (v := ?rv3) rfl (by kernel_rfl) (fun _ _ _ h => h) (by rfl) hS (fun w' hS' => ?ry3) ?rz3
  case ry3 =>
    have b0 := (k5.below hS' k5.lt).cell (i := 0) rfl
    have b1 := (k5.below hS' k5.lt).cell (i := 1) rfl
    have b2 := (k5.below hS' k5.lt).cell (i := 2) rfl
    have e0 := (k6.below hS' k6.lt).cell (i := 0) rfl
    have e1 := (k6.below hS' k6.lt).cell (i := 1) rfl
    have e2 := (k6.below hS' k6.lt).cell (i := 2) rfl
    have h0 := (k7.below hS' k7.lt).cell (i := 0) rfl
    have l0 := (k8.below hS' k8.lt).cell (i := 0) rfl
    have l1 := (k8.below hS' k8.lt).cell (i := 1) rfl
    have l2 := (k8.below hS' k8.lt).cell (i := 2) rfl
    have l3 := (k8.below hS' k8.lt).cell (i := 3) rfl
    have l4 := (k8.below hS' k8.lt).cell (i := 4) rfl
    have l5 := (k8.below hS' k8.lt).cell (i := 5) rfl
    have l6 := (k8.below hS' k8.lt).cell (i := 6) rfl
    go_simp
    rfl
  simp only [List.setIfInBounds_toArray, List.set_cons_zero, List.set_cons_succ]
  refine take_op 4 (v := ?rv4) rfl (by kernel_rfl) (fun _ _ _ h => h) (by rfl) hS (fun w' hS' => ?ry4) ?rz4
  case ry4 =>
    have b0 := (k5.below hS' k5.lt).cell (i := 0) rfl
    have b1 := (k5.below hS' k5.lt).cell (i := 1) rfl
    have b2 := (k5.below hS' k5.lt).cell (i := 2) rfl
    have e0 := (k6.below hS' k6.lt).cell (i := 0) rfl
    have e1 := (k6.below hS' k6.lt).cell (i := 1) rfl
    have e2 := (k6.below hS' k6.lt).cell (i := 2) rfl
    have h0 := (k7.below hS' k7.lt).cell (i := 0) rfl
    have l0 := (k8.below hS' k8.lt).cell (i := 0) rfl
    have l1 := (k8.below hS' k8.lt).cell (i := 1) rfl
    have l2 := (k8.below hS' k8.lt).cell (i := 2) rfl
    have l3 := (k8.below hS' k8.lt).cell (i := 3) rfl
    have l4 := (k8.below hS' k8.lt).cell (i := 4) rfl
    have l5 := (k8.below hS' k8.lt).cell (i := 5) rfl
    have l6 := (k8.below hS' k8.lt).cell (i := 6) rfl
    go_simp
    rfl
  simp only [List.setIfInBounds_toArray, List.set_cons_zero, List.set_cons_succ]
  refine take_op 5 (v := ?rv5) rfl (by kernel_rfl) (fun _ _ _ h => h) (by rfl) hS (fun w' hS' => ?ry5) ?rz5
  case ry5 =>
    go_simp
    rfl
  simp only [List.setIfInBounds_toArray, List.set_cons_zero, List.set_cons_succ]
  refine take_op 6 (v := ?rv6) rfl (by kernel_rfl) (fun _ _ _ h => h) (by rfl) hS (fun w' hS' => ?ry6) ?rz6
  case ry6 =>
    go_simp
    rfl
  simp only [List.setIfInBounds_toArray, List.set_cons_zero, List.set_cons_succ]
  refine take_op 8 (v := ?rv8) rfl (by kernel_rfl) (fun _ _ _ h => h) (by rfl) hS (fun w' hS' => ?ry8) ?rz8
  case ry8 =>
    have b0 := (k5.below hS' k5.lt).cell (i := 0) rfl
    have b1 := (k5.below hS' k5.lt).cell (i := 1) rfl
    have b2 := (k5.below hS' k5.lt).cell (i := 2) rfl
    have e0 := (k6.below hS' k6.lt).cell (i := 0) rfl
    have e1 := (k6.below hS' k6.lt).cell (i := 1) rfl
    have e2 := (k6.below hS' k6.lt).cell (i := 2) rfl
    have h0 := (k7.below hS' k7.lt).cell (i := 0) rfl
    have l0 := (k8.below hS' k8.lt).cell (i := 0) rfl
    have l1 := (k8.below hS' k8.lt).cell (i := 1) rfl
    have l2 := (k8.below hS' k8.lt).cell (i := 2) rfl
    have l3 := (k8.below hS' k8.lt).cell (i := 3) rfl
    have l4 := (k8.below hS' k8.lt).cell (i := 4) rfl
    have l5 := (k8.below hS' k8.lt).cell (i := 5) rfl
    have l6 := (k8.below hS' k8.lt).cell (i := 6) rfl
    go_simp
    rfl
  simp only [List.setIfInBounds_toArray, List.set_cons_zero, List.set_cons_succ]
  refine take_op 9 (v := ?rv9) rfl (by kernel_rfl) (fun _ _ _ h => h) (by rfl) hS (fun w' hS' => ?ry9) ?rz9
  case ry9 =>
    go_simp
    rfl
  simp only [List.setIfInBounds_toArray, List.set_cons_zero, List.set_cons_succ]
  refine take_op 10 (v := ?rv10) rfl (by kernel_rfl) (fun _ _ _ h => h) (by rfl) hS (fun w' hS' => ?ry10) ?rz10
  case ry10 =>
    go_simp
    rfl
  simp only [List.setIfInBounds_toArray, List.set_cons_zero, List.set_cons_succ]
  refine step_op 7 (by kernel_rfl) rfl (fun K hK => ?_)
  rw [if_pos (by rfl)]
  go_simp
  refine (at_any iw ih x y a c xs n hn _ (Int.le_trans (by decide) q1) (Int.le_trans (Int.le_of_lt q4) (by omega)) q2 q3 (by omega) ((hr.below (Nat.le_refl _) hS).mono hS.size)).mono ?_
  rintro e W1 ⟨rfl, hb2⟩
  rw [hvH.out]
  have hS1 : Below W.heap.size W W1 := hS.trans (hb2.mono hS.size)
  refine hK.out _ _ (fun h => hS1) ?_
  clear hK K
  try simp only [Act.put, List.setIfInBounds_toArray, List.set_cons_zero, List.set_cons_succ]
  refine step_op 11 (by kernel_rfl) rfl (fun K hK => ?_)
  rw [if_pos (by rfl)]
  go_simp
  refine (at_any iw ih x y a' c' ys n hn' _ (Int.le_trans (by decide) q1) (Int.le_trans (Int.le_of_lt q4) (by omega)) q2 q3 (by omega) ((hr'.below (Nat.le_refl _) hS1).mono hS1.size)).mono ?_
  rintro e W2 ⟨rfl, hb3⟩
  rw [huH.out]
  have hS2 : Below W.heap.size W W2 := hS1.trans (hb3.mono hS1.size)
  refine hK.out _ _ (fun h => hS2) ?_
  clear hK K
  try simp only [Act.put, List.setIfInBounds_toArray, List.set_cons_zero, List.set_cons_succ]
  refine step_op 12 (by kernel_rfl) rfl (fun K hK => ?_)
  rw [if_pos (by rfl)]
  go_simp
  refine (oper2_any v u vb1 vb2 ub1 ub2 _).mono ?_
  rintro e W3 ⟨rfl, rfl⟩
  refine hK.out _ _ (fun h => hS2) ?_
  clear hK K
  try simp only [Act.put, List.setIfInBounds_toArray, List.set_cons_zero, List.set_cons_succ]
  refine take_op 13 (v := ?rv13) rfl (by kernel_rfl) (fun _ _ _ h => h) (by rfl) hS2 (fun w' hS' => ?ry13) ?rz13
  case ry13 =>
    go_simp
    rfl
  simp only [List.setIfInBounds_toArray, List.set_cons_zero, List.set_cons_succ]
  refine done_ops (by kernel_rfl) ?_
  go_wp2_with fail
  go_ret
  exact ⟨ret_int (by unfold zipG; rw [hvH.out, huH.out]), hS2⟩

set_option maxRecDepth 100000 in
set_option maxHeartbeats 1000000 in
theorem Zip1_3 (iw ih : Int) (a a' : Option Addr) (c c' n : Nat) (xs ys : List Int) (hn : Hid (xs.length = n)) (hn' : Hid (ys.length = n)) (hall : Hid (allIn (-2147483648) 2147483648 xs = true)) (hall' : Hid (allIn (-2147483648) 2147483648 ys = true)) (x y : Int) (b8 b7 b6 b5 : Nat) (W : World) (hi1 : 1 ≤ iw) (hi2 : iw ≤ 16) (hi3 : 1 ≤ ih) (hi4 : ih ≤ 16) (hnn : Hid ((n : Int) = iw * ih)) (hx1 : 0 ≤ x) (hx2 : x ≤ iw - 1) (hy1 : 0 ≤ y) (hy2 : y ≤ ih - 1)
    (k8 : Blk W b8 134 opsv) (k7 : Blk W b7 5 #[.int .u8 3]) (k6 : Blk W b6 27 #[.int .i64 iw, .int .i64 ih, .slice a' n c']) (k5 : Blk W b5 27 #[.int .i64 iw, .int .i64 ih, .slice a n c]) (hr : Rd W.heap.size W a xs) (hr' : Rd W.heap.size W a' ys) :
    Calls Tryz.prog 78 #[.int .i64 x, .int .i64 y, .pointer (some ⟨b8, 0, none⟩), .pointer (some ⟨b7, 0, none⟩), .pointer (some ⟨b5, 0, none⟩), .pointer (some ⟨b6, 0, none⟩)] W fun e W' => e = .returned (.int .i64 (zipG iw xs ys 3 x y)) ∧ Below W.heap.size W W' := by
  obtain ⟨m1, m2⟩ := mul_small (a := iw) (b := ih) (by omega) hi2 (by omega) hi4
  obtain ⟨q1, q2, q3, q4⟩ := in_idx (u := x) (v := y) hi1 hnn.out hx1 hx2 hy1 hy2
  have hn9 : n ≤ 256 := by have := hnn.out; omega
  obtain ⟨v, hv⟩ : ∃ v, px xs (y * iw + x) = v := ⟨_, rfl⟩
  obtain ⟨u, hu⟩ : ∃ u, px ys (y * iw + x) = u := ⟨_, rfl⟩
  obtain ⟨vb1, vb2⟩ := px_bd hall.out (y * iw + x)
  obtain ⟨ub1, ub2⟩ := px_bd hall'.out (y * iw + x)
  rw [hv] at vb1 vb2
  rw [hu] at ub1 ub2
  have hvH := Lib.hid hv
  have huH := Lib.hid hu
  clear hv hu
  have hS : Below W.heap.size W W.drew := (Below.refl _ _).drew
  go_enter Tryz.func78, Tryz.ntmps78
  go_wp2_with fail
  refine plain_region (fun W' => Below W.heap.size W W') 14 14 (by kernel_rfl) rfl ?_
  simp only [Array.replicate_succ, Array.replicate_zero, List.push_toArray, List.nil_append, List.cons_append]
  refine take_op 0 (v := ?rv0) rfl (by kernel_rfl) (fun _ _ _ h => h) (by rfl) hS (fun w' hS' => ?ry0) ?rz0
  case ry0 =>
    have b0 := (k5.below hS' k5.lt).cell (i := 0) rfl
    have b1 := (k5.below hS' k5.lt).cell (i := 1) rfl
    have b2 := (k5.below hS' k5.lt).cell (i := 2) rfl
    have e0 := (k6.below hS' k6.lt).cell (i := 0) rfl
    have e1 := (k6.below hS' k6.lt).cell (i := 1) rfl
    have e2 := (k6.below hS' k6.lt).cell (i := 2) rfl
    have h0 := (k7.below hS' k7.lt).cell (i := 0) rfl
    have l0 := (k8.below hS' k8.lt).cell (i := 0) rfl
    have l1 := (k8.below hS' k8.lt).cell (i := 1) rfl
    have l2 := (k8.below hS' k8.lt).cell (i := 2) rfl
    have l3 := (k8.below hS' k8.lt).cell (i := 3) rfl
    have l4 := (k8.below hS' k8.lt).cell (i := 4) rfl
    have l5 := (k8.below hS' k8.lt).cell (i := 5) rfl
    have l6 := (k8.below hS' k8.lt).cell (i := 6) rfl
    go_simp
    rfl
  simp only [List.setIfInBounds_toArray, List.set_cons_zero, List.set_cons_succ]
  refine take_op 1 (v := ?rv1) rfl (by kernel_rfl) (fun _ _ _ h => h) (by rfl) hS (fun w' hS' => ?ry1) ?rz1
  case ry1 =>
    go_simp
    try go_ints
    rfl
  simp only [List.setIfInBounds_toArray, List.set_cons_zero, List.set_cons_succ]
  refine take_op 2 (v := ?rv2) rfl (by kernel_rfl) (fun _ _ _ h => h) (by rfl) hS (fun w' hS' => ?ry2) ?rz2
  case ry2 =>
    go_simp
    rfl
  simp only [List.setIfInBounds_toArray, List.set_cons_zero, List.set_cons_succ]
  refine take_op 3 (v := ?rv3) rfl (by kernel_rfl) (fun _ _ _ h => h) (by rfl) hS (fun w' hS' => ?ry3) ?rz3
  case ry3 =>
    have b0 := (k5.below hS' k5.lt).cell (i := 0) rfl
    have b1 := (k5.below hS' k5.lt).cell (i := 1) rfl
    have b2 := (k5.below hS' k5.lt).cell (i := 2) rfl
    have e0 := (k6.below hS' k6.lt).cell (i := 0) rfl
    have e1 := (k6.below hS' k6.lt).cell (i := 1) rfl
    have e2 := (k6.below hS' k6.lt).cell (i := 2) rfl
    have h0 := (k7.below hS' k7.lt).cell (i := 0) rfl
    have l0 := (k8.below hS' k8.lt).cell (i := 0) rfl
    have l1 := (k8.below hS' k8.lt).cell (i := 1) rfl
    have l2 := (k8.below hS' k8.lt).cell (i := 2) rfl
    have l3 := (k8.below hS' k8.lt).cell (i := 3) rfl
    have l4 := (k8.below hS' k8.lt).cell (i := 4) rfl
    have l5 := (k8.below hS' k8.lt).cell (i := 5) rfl
    have l6 := (k8.below hS' k8.lt).cell (i := 6) rfl
    go_simp
    rfl
  simp only [List.setIfInBounds_toArray, List.set_cons_zero, List.set_cons_succ]
  refine take_op 4 (v := ?rv4) rfl (by kernel_rfl) (fun _ _ _ h => h) (by rfl) hS (fun w' hS' => ?ry4) ?rz4
  case ry4 =>
    have b0 := (k5.below hS' k5.lt).cell (i := 0) rfl
    have b1 := (k5.below hS' k5.lt).cell (i := 1) rfl
    have b2 := (k5.below hS' k5.lt).cell (i := 2) rfl
    have e0 := (k6.below hS' k6.lt).cell (i := 0) rfl
    have e1 := (k6.below hS' k6.lt).cell (i := 1) rfl
    have e2 := (k6.below hS' k6.lt).cell (i := 2) rfl
    have h0 := (k7.below hS' k7.lt).cell (i := 0) rfl
    have l0 := (k8.below hS' k8.lt).cell (i := 0) rfl
    have l1 := (k8.below hS' k8.lt).cell (i := 1) rfl
    have l2 := (k8.below hS' k8.lt).cell (i := 2) rfl
    have l3 := (k8.below hS' k8.lt).cell (i := 3) rfl
    have l4 := (k8.below hS' k8.lt).cell (i := 4) rfl
    have l5 := (k8.below hS' k8.lt).cell (i := 5) rfl
    have l6 := (k8.below hS' k8.lt).cell (i := 6) rfl
    go_simp
    rfl
  simp only [List.setIfInBounds_toArray, List.set_cons_zero, List.set_cons_succ]
  refine take_op 5 (v := ?rv5) rfl (by kernel_rfl) (fun _ _ _ h => h) (by rfl) hS (fun w' hS' => ?ry5) ?rz5
  case ry5 =>
    go_simp
    rfl
  simp only [List.setIfInBounds_toArray, List.set_cons_zero, List.set_cons_succ]
  refine take_op 6 (v := ?rv6) rfl (by kernel_rfl) (fun _ _ _ h => h) (by rfl) hS (fun w' hS' => ?ry6) ?rz6
  case ry6 =>
    go_simp
    rfl
  simp only [List.setIfInBounds_toArray, List.set_cons_zero, List.set_cons_succ]
  refine take_op 8 (v := ?rv8) rfl (by kernel_rfl) (fun _ _ _ h => h) (by rfl) hS (fun w' hS' => ?ry8) ?rz8
  case ry8 =>
    have b0 := (k5.below hS' k5.lt).cell (i := 0) rfl
    have b1 := (k5.below hS' k5.lt).cell (i := 1) rfl
    have b2 := (k5.below hS' k5.lt).cell (i := 2) rfl
    have e0 := (k6.below hS' k6.lt).cell (i := 0) rfl
    have e1 := (k6.below hS' k6.lt).cell (i := 1) rfl
    have e2 := (k6.below hS' k6.lt).cell (i := 2) rfl
    have h0 := (k7.below hS' k7.lt).cell (i := 0) rfl
    have l0 := (k8.below hS' k8.lt).cell (i := 0) rfl
    have l1 := (k8.below hS' k8.lt).cell (i := 1) rfl
    have l2 := (k8.below hS' k8.lt).cell (i := 2) rfl
    have l3 := (k8.below hS' k8.lt).cell (i := 3) rfl
    have l4 := (k8.below hS' k8.lt).cell (i := 4) rfl
    have l5 := (k8.below hS' k8.lt).cell (i := 5) rfl
    have l6 := (k8.below hS' k8.lt).cell (i := 6) rfl
    go_simp
    rfl
  simp only [List.setIfInBounds_toArray, List.set_cons_zero, List.set_cons_succ]
  refine take_op 9 (v := ?rv9) rfl (by kernel_rfl) (fun _ _ _ h => h) (by rfl) hS (fun w' hS' => ?ry9) ?rz9
  case ry9 =>
    go_simp
    rfl
  simp only [List.setIfInBounds_toArray, List.set_cons_zero, List.set_cons_succ]
  refine take_op 10 (v := ?rv10) rfl (by kernel_rfl) (fun _ _ _ h => h) (by rfl) hS (fun w' hS' => ?ry10) ?rz10
  case ry10 =>
    go_simp
    rfl
  simp only [List.setIfInBounds_toArray, List.set_cons_zero, List.set_cons_succ]
  refine step_op 7 (by kernel_rfl) rfl (fun K hK => ?_)
  rw [if_pos (by rfl)]
  go_simp
  refine (at_any iw ih x y a c xs n hn _ (Int.le_trans (by decide) q1) (Int.le_trans (Int.le_of_lt q4) (by omega)) q2 q3 (by omega) ((hr.below (Nat.le_refl _) hS).mono hS.size)).mono ?_
  rintro e W1 ⟨rfl, hb2⟩
  rw [hvH.out]
  have hS1 : Below W.heap.size W W1 := hS.trans (hb2.mono hS.size)
  refine hK.out _ _ (fun h => hS1) ?_
  clear hK K
  try simp only [Act.put, List.setIfInBounds_toArray, List.set_cons_zero, List.set_cons_succ]
  refine step_op 11 (by kernel_rfl) rfl (fun K hK => ?_)
  rw [if_pos (by rfl)]
  go_simp
  refine (at_any iw ih x y a' c' ys n hn' _ (Int.le_trans (by decide) q1) (Int.le_trans (Int.le_of_lt q4) (by omega)) q2 q3 (by omega) ((hr'.below (Nat.le_refl _) hS1).mono hS1.size)).mono ?_
  rintro e W2 ⟨rfl, hb3⟩
  rw [huH.out]
  have hS2 : Below W.heap.size W W2 := hS1.trans (hb3.mono hS1.size)
  refine hK.out _ _ (fun h => hS2) ?_
  clear hK K
  try simp only [Act.put, List.setIfInBounds_toArray, List.set_cons_zero, List.set_cons_succ]
  refine step_op 12 (by kernel_rfl) rfl (fun K hK => ?_)
  rw [if_pos (by rfl)]
  go_simp
  refine (oper3_any v u vb1 vb2 ub1 ub2 _).mono ?_
  rintro e W3 ⟨rfl, rfl⟩
  refine hK.out _ _ (fun h => hS2) ?_
  clear hK K
  try simp only [Act.put, List.setIfInBounds_toArray, List.set_cons_zero, List.set_cons_succ]
  refine take_op 13 (v := ?rv13) rfl (by kernel_rfl) (fun _ _ _ h => h) (by rfl) hS2 (fun w' hS' => ?ry13) ?rz13
  case ry13 =>
    go_simp
    rfl
  simp only [List.setIfInBounds_toArray, List.set_cons_zero, List.set_cons_succ]
  refine done_ops (by kernel_rfl) ?_
  go_wp2_with fail
  go_ret
  exact ⟨ret_int (by unfold zipG; rw [hvH.out, huH.out]), hS2⟩

set_option maxRecDepth 100000 in
set_option maxHeartbeats 1000000 in
theorem Zip1_4 (iw ih : Int) (a a' : Option Addr) (c c' n : Nat) (xs ys : List Int) (hn : Hid (xs.length = n)) (hn' : Hid (ys.length = n)) (hall : Hid (allIn (-2147483648) 2147483648 xs = true)) (hall' : Hid (allIn (-2147483648) 2147483648 ys = true)) (x y : Int) (b8 b7 b6 b5 : Nat) (W : World) (hi1 : 1 ≤ iw) (hi2 : iw ≤ 16) (hi3 : 1 ≤ ih) (hi4 : ih ≤ 16) (hnn : Hid ((n : Int) = iw * ih)) (hx1 : 0 ≤ x) (hx2 : x ≤ iw - 1) (hy1 : 0 ≤ y) (hy2 : y ≤ ih - 1)
    (k8 : Blk W b8 134 opsv) (k7 : Blk W b7 5 #[.int .u8 4]) (k6 : Blk W b6 27 #[.int .i64 iw, .int .i64 ih, .slice a' n c']) (k5 : Blk W b5 27 #[.int .i64 iw, .int .i64 ih, .slice a n c]) (hr : Rd W.heap.size W a xs) (hr' : Rd W.heap.size W a' ys) :
    Calls Tryz.prog 78 #[.int .i64 x, .int .i64 y, .pointer (some ⟨b8, 0, none⟩), .pointer (some ⟨b7, 0, none⟩), .pointer (some ⟨b5, 0, none⟩), .pointer (some ⟨b6, 0, none⟩)] W fun e W' => e = .returned (.int .i64 (zipG iw xs ys 4 x y)) ∧ Below W.heap.size W W' := by
  obtain ⟨m1, m2⟩ := mul_small (a := iw) (b := ih) (by omega) hi2 (by omega) hi4
  obtain ⟨q1, q2, q3, q4⟩ := in_idx (u := x) (v := y) hi1 hnn.out hx1 hx2 hy1 hy2
  have hn9 : n ≤ 256 := by have := hnn.out; omega
  obtain ⟨v, hv⟩ : ∃ v, px xs (y * iw + x) = v := ⟨_, rfl⟩
  obtain ⟨u, hu⟩ : ∃ u, px ys (y * iw + x) = u := ⟨_, rfl⟩
  obtain ⟨vb1, vb2⟩ := px_bd hall.out (y * iw + x)
  obtain ⟨ub1, ub2⟩ := px_bd hall'.out (y * iw + x)
  rw [hv] at vb1 vb2
  rw [hu] at ub1 ub2
  have hvH := Lib.hid hv
  have huH := Lib.hid hu
  clear hv hu
  have hS : Below W.heap.size W W.drew := (Below.refl _ _).drew
  go_enter Tryz.func78, Tryz.ntmps78
  go_wp2_with fail
  refine plain_region (fun W' => Below W.heap.size W W') 14 14 (by kernel_rfl) rfl ?_
  simp only [Array.replicate_succ, Array.replicate_zero, List.push_toArray, List.nil_append, List.cons_append]
  refine take_op 0 (v := ?rv0) rfl (by kernel_rfl) (fun _ _ _ h => h) (by rfl) hS (fun w' hS' => ?ry0) ?rz0
  case ry0 =>
    have b0 := (k5.below hS' k5.lt).cell (i := 0) rfl
    have b1 := (k5.below hS' k5.lt).cell (i := 1) rfl
    have b2 := (k5.below hS' k5.lt).cell (i := 2) rfl
    have e0 := (k6.below hS' k6.lt).cell (i := 0) rfl
    have e1 := (k6.below hS' k6.lt).cell (i := 1) rfl
    have e2 := (k6.below hS' k6.lt).cell (i := 2) rfl
    have h0 := (k7.below hS' k7.lt).cell (i := 0) rfl
    have l0 := (k8.below hS' k8.lt).cell (i := 0) rfl
    have l1 := (k8.below hS' k8.lt).cell (i := 1) rfl
    have l2 := (k8.below hS' k8.lt).cell (i := 2) rfl
    have l3 := (k8.below hS' k8.lt).cell (i := 3) rfl
    have l4 := (k8.below hS' k8.lt).cell (i := 4) rfl
    have l5 := (k8.below hS' k8.lt).cell (i := 5) rfl
    have l6 := (k8.below hS' k8.lt).cell (i := 6) rfl
    go_simp
    rfl
  simp only [List.setIfInBounds_toArray, List.set_cons_zero, List.set_cons_succ]
  refine take_op 1 (v := ?rv1) rfl (by kernel_rfl) (fun _ _ _ h => h) (by rfl) hS (fun w' hS' => ?ry1) ?rz1
  case ry1 =>
    go_simp
    try go_ints
    rfl
  simp only [List.setIfInBounds_toArray, List.set_cons_zero, List.set_cons_succ]
  refine take_op 2 (v := ?rv2) rfl (by kernel_rfl) (fun _ _ _ h => h) (by rfl) hS (fun w' hS' => ?ry2) ?rz2
  case ry2 =>
    go_simp
    rfl
  simp only [List.setIfInBounds_toArray, List.set_cons_zero, List.set_cons_succ]
  refine take_op 3 (v := ?rv3) rfl (by kernel_rfl) (fun _ _ _ h => h) (by rfl) hS (fun w' hS' => ?ry3) ?rz3
  case ry3 =>
    have b0 := (k5.below hS' k5.lt).cell (i := 0) rfl
    have b1 := (k5.below hS' k5.lt).cell (i := 1) rfl
    have b2 := (k5.below hS' k5.lt).cell (i := 2) rfl
    have e0 := (k6.below hS' k6.lt).cell (i := 0) rfl
    have e1 := (k6.below hS' k6.lt).cell (i := 1) rfl
    have e2 := (k6.below hS' k6.lt).cell (i := 2) rfl
    have h0 := (k7.below hS' k7.lt).cell (i := 0) rfl
    have l0 := (k8.below hS' k8.lt).cell (i := 0) rfl
    have l1 := (k8.below hS' k8.lt).cell (i := 1) rfl
    have l2 := (k8.below hS' k8.lt).cell (i := 2) rfl
    have l3 := (k8.below hS' k8.lt).cell (i := 3) rfl
    have l4 := (k8.below hS' k8.lt).cell (i := 4) rfl
    have l5 := (k8.below hS' k8.lt).cell (i := 5) rfl
    have l6 := (k8.below hS' k8.lt).cell (i := 6) rfl
    go_simp
    rfl
  simp only [List.setIfInBounds_toArray, List.set_cons_zero, List.set_cons_succ]
  refine take_op 4 (v := ?rv4) rfl (by kernel_rfl) (fun _ _ _ h => h) (by rfl) hS (fun w' hS' => ?ry4) ?rz4
  case ry4 =>
    have b0 := (k5.below hS' k5.lt).cell (i := 0) rfl
    have b1 := (k5.below hS' k5.lt).cell (i := 1) rfl
    have b2 := (k5.below hS' k5.lt).cell (i := 2) rfl
    have e0 := (k6.below hS' k6.lt).cell (i := 0) rfl
    have e1 := (k6.below hS' k6.lt).cell (i := 1) rfl
    have e2 := (k6.below hS' k6.lt).cell (i := 2) rfl
    have h0 := (k7.below hS' k7.lt).cell (i := 0) rfl
    have l0 := (k8.below hS' k8.lt).cell (i := 0) rfl
    have l1 := (k8.below hS' k8.lt).cell (i := 1) rfl
    have l2 := (k8.below hS' k8.lt).cell (i := 2) rfl
    have l3 := (k8.below hS' k8.lt).cell (i := 3) rfl
    have l4 := (k8.below hS' k8.lt).cell (i := 4) rfl
    have l5 := (k8.below hS' k8.lt).cell (i := 5) rfl
    have l6 := (k8.below hS' k8.lt).cell (i := 6) rfl
    go_simp
    rfl
  simp only [List.setIfInBounds_toArray, List.set_cons_zero, List.set_cons_succ]
  refine take_op 5 (v := ?rv5) rfl (by kernel_rfl) (fun _ _ _ h => h) (by rfl) hS (fun w' hS' => ?ry5) ?rz5
  case ry5 =>
    go_simp
    rfl
  simp only [List.setIfInBounds_toArray, List.set_cons_zero, List.set_cons_succ]
  refine take_op 6 (v := ?rv6) rfl (by kernel_rfl) (fun _ _ _ h => h) (by rfl) hS (fun w' hS' => ?ry6) ?rz6
  case ry6 =>
    go_simp
    rfl
  simp only [List.setIfInBounds_toArray, List.set_cons_zero, List.set_cons_succ]
  refine take_op 8 (v := ?rv8) rfl (by kernel_rfl) (fun _ _ _ h => h) (by rfl) hS (fun w' hS' => ?ry8) ?rz8
  case ry8 =>
    have b0 := (k5.below hS' k5.lt).cell (i := 0) rfl
    have b1 := (k5.below hS' k5.lt).cell (i := 1) rfl
    have b2 := (k5.below hS' k5.lt).cell (i := 2) rfl
    have e0 := (k6.below hS' k6.lt).cell (i := 0) rfl
    have e1 := (k6.below hS' k6.lt).cell (i := 1) rfl
    have e2 := (k6.below hS' k6.lt).cell (i := 2) rfl
    have h0 := (k7.below hS' k7.lt).cell (i := 0) rfl
    have l0 := (k8.below hS' k8.lt).cell (i := 0) rfl
    have l1 := (k8.below hS' k8.lt).cell (i := 1) rfl
    have l2 := (k8.below hS' k8.lt).cell (i := 2) rfl
    have l3 := (k8.below hS' k8.lt).cell (i := 3) rfl
    have l4 := (k8.below hS' k8.lt).cell (i := 4) rfl
    have l5 := (k8.below hS' k8.lt).cell (i := 5) rfl
    have l6 := (k8.below hS' k8.lt).cell (i := 6) rfl
    go_simp
    rfl
  simp only [List.setIfInBounds_toArray, List.set_cons_zero, List.set_cons_succ]
  refine take_op 9 (v := ?rv9) rfl (by kernel_rfl) (fun _ _ _ h => h) (by rfl) hS (fun w' hS' => ?ry9) ?rz9
  case ry9 =>
    go_simp
    rfl
  simp only [List.setIfInBounds_toArray, List.set_cons_zero, List.set_cons_succ]
  refine take_op 10 (v := ?rv10) rfl (by kernel_rfl) (fun _ _ _ h => h) (by rfl) hS (fun w' hS' => ?ry10) ?rz10
  case ry10 =>
    go_simp
    rfl
  simp only [List.setIfInBounds_toArray, List.set_cons_zero, List.set_cons_succ]
  refine step_op 7 (by kernel_rfl) rfl (fun K hK => ?_)
  rw [if_pos (by rfl)]
  go_simp
  refine (at_any iw ih x y a c xs n hn _ (Int.le_trans (by decide) q1) (Int.le_trans (Int.le_of_lt q4) (by omega)) q2 q3 (by omega) ((hr.below (Nat.le_refl _) hS).mono hS.size)).mono ?_
  rintro e W1 ⟨rfl, hb2⟩
  rw [hvH.out]
  have hS1 : Below W.heap.size W W1 := hS.trans (hb2.mono hS.size)
  refine hK.out _ _ (fun h => hS1) ?_
  clear hK K
  try simp only [Act.put, List.setIfInBounds_toArray, List.set_cons_zero, List.set_cons_succ]
  refine step_op 11 (by kernel_rfl) rfl (fun K hK => ?_)
  rw [if_pos (by rfl)]
  go_simp
  refine (at_any iw ih x y a' c' ys n hn' _ (Int.le_trans (by decide) q1) (Int.le_trans (Int.le_of_lt q4) (by omega)) q2 q3 (by omega) ((hr'.below (Nat.le_refl _) hS1).mono hS1.size)).mono ?_
  rintro e W2 ⟨rfl, hb3⟩
  rw [huH.out]
  have hS2 : Below W.heap.size W W2 := hS1.trans (hb3.mono hS1.size)
  refine hK.out _ _ (fun h => hS2) ?_
  clear hK K
  try simp only [Act.put, List.setIfInBounds_toArray, List.set_cons_zero, List.set_cons_succ]
  refine step_op 12 (by kernel_rfl) rfl (fun K hK => ?_)
  rw [if_pos (by rfl)]
  go_simp
  refine (oper4_any v u vb1 vb2 ub1 ub2 _).mono ?_
  rintro e W3 ⟨rfl, rfl⟩
  refine hK.out _ _ (fun h => hS2) ?_
  clear hK K
  try simp only [Act.put, List.setIfInBounds_toArray, List.set_cons_zero, List.set_cons_succ]
  refine take_op 13 (v := ?rv13) rfl (by kernel_rfl) (fun _ _ _ h => h) (by rfl) hS2 (fun w' hS' => ?ry13) ?rz13
  case ry13 =>
    go_simp
    rfl
  simp only [List.setIfInBounds_toArray, List.set_cons_zero, List.set_cons_succ]
  refine done_ops (by kernel_rfl) ?_
  go_wp2_with fail
  go_ret
  exact ⟨ret_int (by unfold zipG; rw [hvH.out, huH.out]), hS2⟩

set_option maxRecDepth 100000 in
set_option maxHeartbeats 1000000 in
theorem Zip1_5 (iw ih : Int) (a a' : Option Addr) (c c' n : Nat) (xs ys : List Int) (hn : Hid (xs.length = n)) (hn' : Hid (ys.length = n)) (hall : Hid (allIn (-2147483648) 2147483648 xs = true)) (hall' : Hid (allIn (-2147483648) 2147483648 ys = true)) (x y : Int) (b8 b7 b6 b5 : Nat) (W : World) (hi1 : 1 ≤ iw) (hi2 : iw ≤ 16) (hi3 : 1 ≤ ih) (hi4 : ih ≤ 16) (hnn : Hid ((n : Int) = iw * ih)) (hx1 : 0 ≤ x) (hx2 : x ≤ iw - 1) (hy1 : 0 ≤ y) (hy2 : y ≤ ih - 1)
    (k8 : Blk W b8 134 opsv) (k7 : Blk W b7 5 #[.int .u8 5]) (k6 : Blk W b6 27 #[.int .i64 iw, .int .i64 ih, .slice a' n c']) (k5 : Blk W b5 27 #[.int .i64 iw, .int .i64 ih, .slice a n c]) (hr : Rd W.heap.size W a xs) (hr' : Rd W.heap.size W a' ys) :
    Calls Tryz.prog 78 #[.int .i64 x, .int .i64 y, .pointer (some ⟨b8, 0, none⟩), .pointer (some ⟨b7, 0, none⟩), .pointer (some ⟨b5, 0, none⟩), .pointer (some ⟨b6, 0, none⟩)] W fun e W' => e = .returned (.int .i64 (zipG iw xs ys 5 x y)) ∧ Below W.heap.size W W' := by
  obtain ⟨m1, m2⟩ := mul_small (a := iw) (b := ih) (by omega) hi2 (by omega) hi4
  obtain ⟨q1, q2, q3, q4⟩ := in_idx (u := x) (v := y) hi1 hnn.out hx1 hx2 hy1 hy2
  have hn9 : n ≤ 256 := by have := hnn.out; omega
  obtain ⟨v, hv⟩ : ∃ v, px xs (y * iw + x) = v := ⟨_, rfl⟩
  obtain ⟨u, hu⟩ : ∃ u, px ys (y * iw + x) = u := ⟨_, rfl⟩
  obtain ⟨vb1, vb2⟩ := px_bd hall.out (y * iw + x)
  obtain ⟨ub1, ub2⟩ := px_bd hall'.out (y * iw + x)
  rw [hv] at vb1 vb2
  rw [hu] at ub1 ub2
  have hvH := Lib.hid hv
  have huH := Lib.hid hu
  clear hv hu
  have hS : Below W.heap.size W W.drew := (Below.refl _ _).drew
  go_enter Tryz.func78, Tryz.ntmps78
  go_wp2_with fail
  refine plain_region (fun W' => Below W.heap.size W W') 14 14 (by kernel_rfl) rfl ?_
  simp only [Array.replicate_succ, Array.replicate_zero, List.push_toArray, List.nil_append, List.cons_append]
  refine take_op 0 (v := ?rv0) rfl (by kernel_rfl) (fun _ _ _ h => h) (by rfl) hS (fun w' hS' => ?ry0) ?rz0
  case ry0 =>
    have b0 := (k5.below hS' k5.lt).cell (i := 0) rfl
    have b1 := (k5.below hS' k5.lt).cell (i := 1) rfl
    have b2 := (k5.below hS' k5.lt).cell (i := 2) rfl
    have e0 := (k6.below hS' k6.lt).cell (i := 0) rfl
    have e1 := (k6.below hS' k6.lt).cell (i := 1) rfl
    have e2 := (k6.below hS' k6.lt).cell (i := 2) rfl
    have h0 := (k7.below hS' k7.lt).cell (i := 0) rfl
    have l0 := (k8.below hS' k8.lt).cell (i := 0) rfl
    have l1 := (k8.below hS' k8.lt).cell (i := 1) rfl
    have l2 := (k8.below hS' k8.lt).cell (i := 2) rfl
    have l3 := (k8.below hS' k8.lt).cell (i := 3) rfl
    have l4 := (k8.below hS' k8.lt).cell (i := 4) rfl
    have l5 := (k8.below hS' k8.lt).cell (i := 5) rfl
    have l6 := (k8.below hS' k8.lt).cell (i := 6) rfl
    go_simp
    rfl
  simp only [List.setIfInBounds_toArray, List.set_cons_zero, List.set_cons_succ]
  refine take_op 1 (v := ?rv1) rfl (by kernel_rfl) (fun _ _ _ h => h) (by rfl) hS (fun w' hS' => ?ry1) ?rz1
  case ry1 =>
    go_simp
    try go_ints
    rfl
  simp only [List.setIfInBounds_toArray, List.set_cons_zero, List.set_cons_succ]
  refine take_op 2 (v := ?rv2) rfl (by kernel_rfl) (fun _ _ _ h => h) (by rfl) hS (fun w' hS' => ?ry2) ?rz2
  case ry2 =>
    go_simp
    rfl
  simp only [List.setIfInBounds_toArray, List.set_cons_zero, List.set_cons_succ]
  refine take_op 3 (v := ?rv3) rfl (by kernel_rfl) (fun _ _ _ h => h) (by rfl) hS (fun w' hS' => ?ry3) ?rz3
  case ry3 =>
    have b0 := (k5.below hS' k5.lt).cell (i := 0) rfl
    have b1 := (k5.below hS' k5.lt).cell (i := 1) rfl
    have b2 := (k5.below hS' k5.lt).cell (i := 2) rfl
    have e0 := (k6.below hS' k6.lt).cell (i := 0) rfl
    have e1 := (k6.below hS' k6.lt).cell (i := 1) rfl
    have e2 := (k6.below hS' k6.lt).cell (i := 2) rfl
    have h0 := (k7.below hS' k7.lt).cell (i := 0) rfl
    have l0 := (k8.below hS' k8.lt).cell (i := 0) rfl
    have l1 := (k8.below hS' k8.lt).cell (i := 1) rfl
    have l2 := (k8.below hS' k8.lt).cell (i := 2) rfl
    have l3 := (k8.below hS' k8.lt).cell (i := 3) rfl
    have l4 := (k8.below hS' k8.lt).cell (i := 4) rfl
    have l5 := (k8.below hS' k8.lt).cell (i := 5) rfl
    have l6 := (k8.below hS' k8.lt).cell (i := 6) rfl
    go_simp
    rfl
  simp only [List.setIfInBounds_toArray, List.set_cons_zero, List.set_cons_succ]
  refine take_op 4 (v := ?rv4) rfl (by kernel_rfl) (fun _ _ _ h => h) (by rfl) hS (fun w' hS' => ?ry4) ?rz4
  case ry4 =>
    have b0 := (k5.below hS' k5.lt).cell (i := 0) rfl
    have b1 := (k5.below hS' k5.lt).cell (i := 1) rfl
    have b2 := (k5.below hS' k5.lt).cell (i := 2) rfl
    have e0 := (k6.below hS' k6.lt).cell (i := 0) rfl
    have e1 := (k6.below hS' k6.lt).cell (i := 1) rfl
    have e2 := (k6.below hS' k6.lt).cell (i := 2) rfl
    have h0 := (k7.below hS' k7.lt).cell (i := 0) rfl
    have l0 := (k8.below hS' k8.lt).cell (i := 0) rfl
    have l1 := (k8.below hS' k8.lt).cell (i := 1) rfl
    have l2 := (k8.below hS' k8.lt).cell (i := 2) rfl
    have l3 := (k8.below hS' k8.lt).cell (i := 3) rfl
    have l4 := (k8.below hS' k8.lt).cell (i := 4) rfl
    have l5 := (k8.below hS' k8.lt).cell (i := 5) rfl
    have l6 := (k8.below hS' k8.lt).cell (i := 6) rfl
    go_simp
    rfl
  simp only [List.setIfInBounds_toArray, List.set_cons_zero, List.set_cons_succ]
  refine take_op 5 (v := ?rv5) rfl (by kernel_rfl) (fun _ _ _ h => h) (by rfl) hS (fun w' hS' => ?ry5) ?rz5
  case ry5 =>
    go_simp
    rfl
  simp only [List.setIfInBounds_toArray, List.set_cons_zero, List.set_cons_succ]
  refine take_op 6 (v := ?rv6) rfl (by kernel_rfl) (fun _ _ _ h => h) (by rfl) hS (fun w' hS' => ?ry6) ?rz6
  case ry6 =>
    go_simp
    rfl
  simp only [List.setIfInBounds_toArray, List.set_cons_zero, List.set_cons_succ]
  refine take_op 8 (v := ?rv8) rfl (by kernel_rfl) (fun _ _ _ h => h) (by rfl) hS (fun w' hS' => ?ry8) ?rz8
  case ry8 =>
    have b0 := (k5.below hS' k5.lt).cell (i := 0) rfl
    have b1 := (k5.below hS' k5.lt).cell (i := 1) rfl
    have b2 := (k5.below hS' k5.lt).cell (i := 2) rfl
    have e0 := (k6.below hS' k6.lt).cell (i := 0) rfl
    have e1 := (k6.below hS' k6.lt).cell (i := 1) rfl
    have e2 := (k6.below hS' k6.lt).cell (i := 2) rfl
    have h0 := (k7.below hS' k7.lt).cell (i := 0) rfl
    have l0 := (k8.below hS' k8.lt).cell (i := 0) rfl
    have l1 := (k8.below hS' k8.lt).cell (i := 1) rfl
    have l2 := (k8.below hS' k8.lt).cell (i := 2) rfl
    have l3 := (k8.below hS' k8.lt).cell (i := 3) rfl
    have l4 := (k8.below hS' k8.lt).cell (i := 4) rfl
    have l5 := (k8.below hS' k8.lt).cell (i := 5) rfl
    have l6 := (k8.below hS' k8.lt).cell (i := 6) rfl
    go_simp
    rfl
  simp only [List.setIfInBounds_toArray, List.set_cons_zero, List.set_cons_succ]
  refine take_op 9 (v := ?rv9) rfl (by kernel_rfl) (fun _ _ _ h => h) (by rfl) hS (fun w' hS' => ?ry9) ?rz9
  case ry9 =>
    go_simp
    rfl
  simp only [List.setIfInBounds_toArray, List.set_cons_zero, List.set_cons_succ]
  refine take_op 10 (v := ?rv10) rfl (by kernel_rfl) (fun _ _ _ h => h) (by rfl) hS (fun w' hS' => ?ry10) ?rz10
  case ry10 =>
    go_simp
    rfl
  simp only [List.setIfInBounds_toArray, List.set_cons_zero, List.set_cons_succ]
  refine step_op 7 (by kernel_rfl) rfl (fun K hK => ?_)
  rw [if_pos (by rfl)]
  go_simp
  refine (at_any iw ih x y a c xs n hn _ (Int.le_trans (by decide) q1) (Int.le_trans (Int.le_of_lt q4) (by omega)) q2 q3 (by omega) ((hr.below (Nat.le_refl _) hS).mono hS.size)).mono ?_
  rintro e W1 ⟨rfl, hb2⟩
  rw [hvH.out]
  have hS1 : Below W.heap.size W W1 := hS.trans (hb2.mono hS.size)
  refine hK.out _ _ (fun h => hS1) ?_
  clear hK K
  try simp only [Act.put, List.setIfInBounds_toArray, List.set_cons_zero, List.set_cons_succ]
  refine step_op 11 (by kernel_rfl) rfl (fun K hK => ?_)
  rw [if_pos (by rfl)]
  go_simp
  refine (at_any iw ih x y a' c' ys n hn' _ (Int.le_trans (by decide) q1) (Int.le_trans (Int.le_of_lt q4) (by omega)) q2 q3 (by omega) ((hr'.below (Nat.le_refl _) hS1).mono hS1.size)).mono ?_
  rintro e W2 ⟨rfl, hb3⟩
  rw [huH.out]
  have hS2 : Below W.heap.size W W2 := hS1.trans (hb3.mono hS1.size)
  refine hK.out _ _ (fun h => hS2) ?_
  clear hK K
  try simp only [Act.put, List.setIfInBounds_toArray, List.set_cons_zero, List.set_cons_succ]
  refine step_op 12 (by kernel_rfl) rfl (fun K hK => ?_)
  rw [if_pos (by rfl)]
  go_simp
  refine (oper5_any v u vb1 vb2 ub1 ub2 _).mono ?_
  rintro e W3 ⟨rfl, rfl⟩
  refine hK.out _ _ (fun h => hS2) ?_
  clear hK K
  try simp only [Act.put, List.setIfInBounds_toArray, List.set_cons_zero, List.set_cons_succ]
  refine take_op 13 (v := ?rv13) rfl (by kernel_rfl) (fun _ _ _ h => h) (by rfl) hS2 (fun w' hS' => ?ry13) ?rz13
  case ry13 =>
    go_simp
    rfl
  simp only [List.setIfInBounds_toArray, List.set_cons_zero, List.set_cons_succ]
  refine done_ops (by kernel_rfl) ?_
  go_wp2_with fail
  go_ret
  exact ⟨ret_int (by unfold zipG; rw [hvH.out, huH.out]), hS2⟩

set_option maxRecDepth 100000 in
set_option maxHeartbeats 1000000 in
theorem Zip1_6 (iw ih : Int) (a a' : Option Addr) (c c' n : Nat) (xs ys : List Int) (hn : Hid (xs.length = n)) (hn' : Hid (ys.length = n)) (hall : Hid (allIn (-2147483648) 2147483648 xs = true)) (hall' : Hid (allIn (-2147483648) 2147483648 ys = true)) (x y : Int) (b8 b7 b6 b5 : Nat) (W : World) (hi1 : 1 ≤ iw) (hi2 : iw ≤ 16) (hi3 : 1 ≤ ih) (hi4 : ih ≤ 16) (hnn : Hid ((n : Int) = iw * ih)) (hx1 : 0 ≤ x) (hx2 : x ≤ iw - 1) (hy1 : 0 ≤ y) (hy2 : y ≤ ih - 1)
    (k8 : Blk W b8 134 opsv) (k7 : Blk W b7 5 #[.int .u8 6]) (k6 : Blk W b6 27 #[.int .i64 iw, .int .i64 ih, .slice a' n c']) (k5 : Blk W b5 27 #[.int .i64 iw, .int .i64 ih, .slice a n c]) (hr : Rd W.heap.size W a xs) (hr' : Rd W.heap.size W a' ys) :
    Calls Tryz.prog 78 #[.int .i64 x, .int .i64 y, .pointer (some ⟨b8, 0, none⟩), .pointer (some ⟨b7, 0, none⟩), .pointer (some ⟨b5, 0, none⟩), .pointer (some ⟨b6, 0, none⟩)] W fun e W' => e = .returned (.int .i64 (zipG iw xs ys 6 x y)) ∧ Below W.heap.size W W' := by
  obtain ⟨m1, m2⟩ := mul_small (a := iw) (b := ih) (by omega) hi2 (by omega) hi4
  obtain ⟨q1, q2, q3, q4⟩ := in_idx (u := x) (v := y) hi1 hnn.out hx1 hx2 hy1 hy2
  have hn9 : n ≤ 256 := by have := hnn.out; omega
  obtain ⟨v, hv⟩ : ∃ v, px xs (y * iw + x) = v := ⟨_, rfl⟩
  obtain ⟨u, hu⟩ : ∃ u, px ys (y * iw + x) = u := ⟨_, rfl⟩
  obtain ⟨vb1, vb2⟩ := px_bd hall.out (y * iw + x)
  obtain ⟨ub1, ub2⟩ := px_bd hall'.out (y * iw + x)
  rw [hv] at vb1 vb2
  rw [hu] at ub1 ub2
  have hvH := Lib.hid hv
  have huH := Lib.hid hu
  clear hv hu
  have hS : Below W.heap.size W W.drew := (Below.refl _ _).drew
  go_enter Tryz.func78, Tryz.ntmps78
  go_wp2_with fail
  refine plain_region (fun W' => Below W.heap.size W W') 14 14 (by kernel_rfl) rfl ?_
  simp only [Array.replicate_succ, Array.replicate_zero, List.push_toArray, List.nil_append, List.cons_append]
  refine take_op 0 (v := ?rv0) rfl (by kernel_rfl) (fun _ _ _ h => h) (by rfl) hS (fun w' hS' => ?ry0) ?rz0
  case ry0 =>
    have b0 := (k5.below hS' k5.lt).cell (i := 0) rfl
    have b1 := (k5.below hS' k5.lt).cell (i := 1) rfl
    have b2 := (k5.below hS' k5.lt).cell (i := 2) rfl
    have e0 := (k6.below hS' k6.lt).cell (i := 0) rfl
    have e1 := (k6.below hS' k6.lt).cell (i := 1) rfl
    have e2 := (k6.below hS' k6.lt).cell (i := 2) rfl
    have h0 := (k7.below hS' k7.lt).cell (i := 0) rfl
    have l0 := (k8.below hS' k8.lt).cell (i := 0) rfl
    have l1 := (k8.below hS' k8.lt).cell (i := 1) rfl
    have l2 := (k8.below hS' k8.lt).cell (i := 2) rfl
    have l3 := (k8.below hS' k8.lt).cell (i := 3) rfl
    have l4 := (k8.below hS' k8.lt).cell (i := 4) rfl
    have l5 := (k8.below hS' k8.lt).cell (i := 5) rfl
    have l6 := (k8.below hS' k8.lt).cell (i := 6) rfl
    go_simp
    rfl
  simp only [List.setIfInBounds_toArray, List.set_cons_zero, List.set_cons_succ]
  refine take_op 1 (v := ?rv1) rfl (by kernel_rfl) (fun _ _ _ h => h) (by rfl) hS (fun w' hS' => ?ry1) ?rz1
  case ry1 =>
    go_simp
    try go_ints
    rfl
  simp only [List.setIfInBounds_toArray, List.set_cons_zero, List.set_cons_succ]
  refine take_op 2 (v := ?rv2) rfl (by kernel_rfl) (fun _ _ _ h => h) (by rfl) hS (fun w' hS' => ?ry2) ?rz2
  case ry2 =>
    go_simp
    rfl
  simp only [List.setIfInBounds_toArray, List.set_cons_zero, List.set_cons_succ]
  refine take_op 3 (v := ?rv3) rfl (by kernel_rfl) (fun _ _ _ h => h) (by rfl) hS (fun w' hS' => ?ry3) ?rz3
  case ry3 =>
    have b0 := (k5.below hS' k5.lt).cell (i := 0) rfl
    have b1 := (k5.below hS' k5.lt).cell (i := 1) rfl
    have b2 := (k5.below hS' k5.lt).cell (i := 2) rfl
    have e0 := (k6.below hS' k6.lt).cell (i := 0) rfl
    have e1 := (k6.below hS' k6.lt).cell (i := 1) rfl
    have e2 := (k6.below hS' k6.lt).cell (i := 2) rfl
    have h0 := (k7.below hS' k7.lt).cell (i := 0) rfl
    have l0 := (k8.below hS' k8.lt).cell (i := 0) rfl
    have l1 := (k8.below hS' k8.lt).cell (i := 1) rfl
    have l2 := (k8.below hS' k8.lt).cell (i := 2) rfl
    have l3 := (k8.below hS' k8.lt).cell (i := 3) rfl
    have l4 := (k8.below hS' k8.lt).cell (i := 4) rfl
    have l5 := (k8.below hS' k8.lt).cell (i := 5) rfl
    have l6 := (k8.below hS' k8.lt).cell (i := 6) rfl
    go_simp
    rfl
  simp only [List.setIfInBounds_toArray, List.set_cons_zero, List.set_cons_succ]
  refine take_op 4 (v := ?rv4) rfl (by kernel_rfl) (fun _ _ _ h => h) (by rfl) hS (fun w' hS' => ?ry4) ?rz4
  case ry4 =>
    have b0 := (k5.below hS' k5.lt).cell (i := 0) rfl
    have b1 := (k5.below hS' k5.lt).cell (i := 1) rfl
    have b2 := (k5.below hS' k5.lt).cell (i := 2) rfl
    have e0 := (k6.below hS' k6.lt).cell (i := 0) rfl
    have e1 := (k6.below hS' k6.lt).cell (i := 1) rfl
    have e2 := (k6.below hS' k6.lt).cell (i := 2) rfl
    have h0 := (k7.below hS' k7.lt).cell (i := 0) rfl
    have l0 := (k8.below hS' k8.lt).cell (i := 0) rfl
    have l1 := (k8.below hS' k8.lt).cell (i := 1) rfl
    have l2 := (k8.below hS' k8.lt).cell (i := 2) rfl
    have l3 := (k8.below hS' k8.lt).cell (i := 3) rfl
    have l4 := (k8.below hS' k8.lt).cell (i := 4) rfl
    have l5 := (k8.below hS' k8.lt).cell (i := 5) rfl
    have l6 := (k8.below hS' k8.lt).cell (i := 6) rfl
    go_simp
    rfl
  simp only [List.setIfInBounds_toArray, List.set_cons_zero, List.set_cons_succ]
  refine take_op 5 (v := ?rv5) rfl (by kernel_rfl) (fun _ _ _ h => h) (by rfl) hS (fun w' hS' => ?ry5) ?rz5
  case ry5 =>
    go_simp
    rfl
  simp only [List.setIfInBounds_toArray, List.set_cons_zero, List.set_cons_succ]
  refine take_op 6 (v := ?rv6) rfl (by kernel_rfl) (fun _ _ _ h => h) (by rfl) hS (fun w' hS' => ?ry6) ?rz6
  case ry6 =>
    go_simp
    rfl
  simp only [List.setIfInBounds_toArray, List.set_cons_zero, List.set_cons_succ]
  refine take_op 8 (v := ?rv8) rfl (by kernel_rfl) (fun _ _ _ h => h) (by rfl) hS (fun w' hS' => ?ry8) ?rz8
  case ry8 =>
    have b0 := (k5.below hS' k5.lt).cell (i := 0) rfl
    have b1 := (k5.below hS' k5.lt).cell (i := 1) rfl
    have b2 := (k5.below hS' k5.lt).cell (i := 2) rfl
    have e0 := (k6.below hS' k6.lt).cell (i := 0) rfl
    have e1 := (k6.below hS' k6.lt).cell (i := 1) rfl
    have e2 := (k6.below hS' k6.lt).cell (i := 2) rfl
    have h0 := (k7.below hS' k7.lt).cell (i := 0) rfl
    have l0 := (k8.below hS' k8.lt).cell (i := 0) rfl
    have l1 := (k8.below hS' k8.lt).cell (i := 1) rfl
    have l2 := (k8.below hS' k8.lt).cell (i := 2) rfl
    have l3 := (k8.below hS' k8.lt).cell (i := 3) rfl
    have l4 := (k8.below hS' k8.lt).cell (i := 4) rfl
    have l5 := (k8.below hS' k8.lt).cell (i := 5) rfl
    have l6 := (k8.below hS' k8.lt).cell (i := 6) rfl
    go_simp
    rfl
  simp only [List.setIfInBounds_toArray, List.set_cons_zero, List.set_cons_succ]
  refine take_op 9 (v := ?rv9) rfl (by kernel_rfl) (fun _ _ _ h => h) (by rfl) hS (fun w' hS' => ?ry9) ?rz9
  case ry9 =>
    go_simp
    rfl
  simp only [List.setIfInBounds_toArray, List.set_cons_zero, List.set_cons_succ]
  refine take_op 10 (v := ?rv10) rfl (by kernel_rfl) (fun _ _ _ h => h) (by rfl) hS (fun w' hS' => ?ry10) ?rz10
  case ry10 =>
    go_simp
    rfl
  simp only [List.setIfInBounds_toArray, List.set_cons_zero, List.set_cons_succ]
  refine step_op 7 (by kernel_rfl) rfl (fun K hK => ?_)
  rw [if_pos (by rfl)]
  go_simp
  refine (at_any iw ih x y a c xs n hn _ (Int.le_trans (by decide) q1) (Int.le_trans (Int.le_of_lt q4) (by omega)) q2 q3 (by omega) ((hr.below (Nat.le_refl _) hS).mono hS.size)).mono ?_
  rintro e W1 ⟨rfl, hb2⟩
  rw [hvH.out]
  have hS1 : Below W.heap.size W W1 := hS.trans (hb2.mono hS.size)
  refine hK.out _ _ (fun h => hS1) ?_
  clear hK K
  try simp only [Act.put, List.setIfInBounds_toArray, List.set_cons_zero, List.set_cons_succ]
  refine step_op 11 (by kernel_rfl) rfl (fun K hK => ?_)
  rw [if_pos (by rfl)]
  go_simp
  refine (at_any iw ih x y a' c' ys n hn' _ (Int.le_trans (by decide) q1) (Int.le_trans (Int.le_of_lt q4) (by omega)) q2 q3 (by omega) ((hr'.below (Nat.le_refl _) hS1).mono hS1.size)).mono ?_
  rintro e W2 ⟨rfl, hb3⟩
  rw [huH.out]
  have hS2 : Below W.heap.size W W2 := hS1.trans (hb3.mono hS1.size)
  refine hK.out _ _ (fun h => hS2) ?_
  clear hK K
  try simp only [Act.put, List.setIfInBounds_toArray, List.set_cons_zero, List.set_cons_succ]
  refine step_op 12 (by kernel_rfl) rfl (fun K hK => ?_)
  rw [if_pos (by rfl)]
  go_simp
  refine (oper6_any v u vb1 vb2 ub1 ub2 _).mono ?_
  rintro e W3 ⟨rfl, rfl⟩
  refine hK.out _ _ (fun h => hS2) ?_
  clear hK K
  try simp only [Act.put, List.setIfInBounds_toArray, List.set_cons_zero, List.set_cons_succ]
  refine take_op 13 (v := ?rv13) rfl (by kernel_rfl) (fun _ _ _ h => h) (by rfl) hS2 (fun w' hS' => ?ry13) ?rz13
  case ry13 =>
    go_simp
    rfl
  simp only [List.setIfInBounds_toArray, List.set_cons_zero, List.set_cons_succ]
  refine done_ops (by kernel_rfl) ?_
  go_wp2_with fail
  go_ret
  exact ⟨ret_int (by unfold zipG; rw [hvH.out, huH.out]), hS2⟩

theorem Zip1_any (how : Int) (hh1 : 1 ≤ how) (hh2 : how ≤ 6) (iw ih : Int) (a a' : Option Addr) (c c' n : Nat) (xs ys : List Int) (hn : Hid (xs.length = n)) (hn' : Hid (ys.length = n)) (hall : Hid (allIn (-2147483648) 2147483648 xs = true)) (hall' : Hid (allIn (-2147483648) 2147483648 ys = true)) (x y : Int) (b8 b7 b6 b5 : Nat) (W : World) (hi1 : 1 ≤ iw) (hi2 : iw ≤ 16) (hi3 : 1 ≤ ih) (hi4 : ih ≤ 16) (hnn : Hid ((n : Int) = iw * ih)) (hx1 : 0 ≤ x) (hx2 : x ≤ iw - 1) (hy1 : 0 ≤ y) (hy2 : y ≤ ih - 1)
    (k8 : Blk W b8 134 opsv) (k7 : Blk W b7 5 #[.int .u8 how]) (k6 : Blk W b6 27 #[.int .i64 iw, .int .i64 ih, .slice a' n c']) (k5 : Blk W b5 27 #[.int .i64 iw, .int .i64 ih, .slice a n c]) (hr : Rd W.heap.size W a xs) (hr' : Rd W.heap.size W a' ys) :
    Calls Tryz.prog 78 #[.int .i64 x, .int .i64 y, .pointer (some ⟨b8, 0, none⟩), .pointer (some ⟨b7, 0, none⟩), .pointer (some ⟨b5, 0, none⟩), .pointer (some ⟨b6, 0, none⟩)] W fun e W' => e = .returned (.int .i64 (zipG iw xs ys how x y)) ∧ Below W.heap.size W W' := by
  have : how = 1 ∨ how = 2 ∨ how = 3 ∨ how = 4 ∨ how = 5 ∨ how = 6 := by omega
  rcases this with rfl | rfl | rfl | rfl | rfl | rfl
  · exact Zip1_1 iw ih a a' c c' n xs ys hn hn' hall hall' x y b8 b7 b6 b5 W hi1 hi2 hi3 hi4 hnn hx1 hx2 hy1 hy2 k8 k7 k6 k5 hr hr'
  · exact Zip1_2 iw ih a a' c c' n xs ys hn hn' hall hall' x y b8 b7 b6 b5 W hi1 hi2 hi3 hi4 hnn hx1 hx2 hy1 hy2 k8 k7 k6 k5 hr hr'
  · exact Zip1_3 iw ih a a' c c' n xs ys hn hn' hall hall' x y b8 b7 b6 b5 W hi1 hi2 hi3 hi4 hnn hx1 hx2 hy1 hy2 k8 k7 k6 k5 hr hr'
  · exact Zip1_4 iw ih a a' c c' n xs ys hn hn' hall hall' x y b8 b7 b6 b5 W hi1 hi2 hi3 hi4 hnn hx1 hx2 hy1 hy2 k8 k7 k6 k5 hr hr'
  · exact Zip1_5 iw ih a a' c c' n xs ys hn hn' hall hall' x y b8 b7 b6 b5 W hi1 hi2 hi3 hi4 hnn hx1 hx2 hy1 hy2 k8 k7 k6 k5 hr hr'
  · exact Zip1_6 iw ih a a' c c' n xs ys hn hn' hall hall' x y b8 b7 b6 b5 W hi1 hi2 hi3 hi4 hnn hx1 hx2 hy1 hy2 k8 k7 k6 k5 hr hr'
end Go.Proofs.YtbfigbpjoaccdaaGreat
