/- Values for any place, by a border; the map of the borders' functions. -/
import Derived.Test.YtbfigbpjoaccdaaImgU
import Derived.Maps.Own
namespace Go.Proofs.Ytbfigbpjoaccdaa
open Go Go.RowKit Go.Shelf
set_option linter.unusedVariables false
set_option linter.unusedSimpArgs false

/-- The value for any place, by a border. -/
def beyF (bd iw ih : Int) (xs : List Int) (x y : Int) : Int :=
  if bd = 1 then (if (inR x 0 (iw - 1) && inR y 0 (ih - 1)) = true then px xs (y * iw + x) else 0)
  else if bd = 2 then px xs (clamp y 0 (ih - 1) * iw + clamp x 0 (iw - 1)) else px xs (y % ih * iw + x % iw)

theorem beyF_in {bd iw ih : Int} {xs : List Int} {x y : Int} (h : (inR x 0 (iw - 1) && inR y 0 (ih - 1)) = true) : beyF bd iw ih xs x y = px xs (y * iw + x) := by
  unfold beyF
  rw [if_pos h]
  simp only [Bool.and_eq_true, inR_true] at h
  rw [show clamp x 0 (iw - 1) = x by unfold clamp; omega, show clamp y 0 (ih - 1) = y by unfold clamp; omega, Int.emod_eq_of_lt (by omega) (by omega), Int.emod_eq_of_lt (by omega) (by omega)]
  split
  · rfl
  · split <;> rfl
theorem beyF_out1 {iw ih : Int} {xs : List Int} {x y : Int} (h : (inR x 0 (iw - 1) && inR y 0 (ih - 1)) = false) : beyF 1 iw ih xs x y = 0 := by
  unfold beyF; rw [if_pos rfl, h]; rfl
theorem beyF_2 (iw ih : Int) (xs : List Int) (x y : Int) : beyF 2 iw ih xs x y = px xs (clamp y 0 (ih - 1) * iw + clamp x 0 (iw - 1)) := by unfold beyF; rw [if_neg (by decide), if_pos rfl]
theorem beyF_3 (iw ih : Int) (xs : List Int) (x y : Int) : beyF 3 iw ih xs x y = px xs (y % ih * iw + x % iw) := by unfold beyF; rw [if_neg (by decide), if_neg (by decide)]
theorem beyF_bd {xs : List Int} (h : allIn (-2147483648) 2147483648 xs = true) (bd iw ih x y : Int) : -2147483648 ≤ beyF bd iw ih xs x y ∧ beyF bd iw ih xs x y ≤ 2147483648 := by
  unfold beyF
  split
  · split
    · exact px_bd h _
    · omega
  · split <;> exact px_bd h _

theorem tmod_small (x : Int) {m : Int} (h1 : 1 ≤ m) (h2 : m ≤ 16) : -16 ≤ x.tmod m ∧ x.tmod m ≤ 16 := by
  have h3 : x.tmod m = x % m ∨ x.tmod m = x % m - m := by
    rw [Int.tmod_eq_emod]
    split
    · left; omega
    · right; omega
  have h4 := Int.emod_nonneg x (show m ≠ 0 by omega)
  have h5 := Int.emod_lt_of_pos x (show 0 < m by omega)
  omega

set_option maxHeartbeats 1000000 in
theorem rest_any (x m r : Int) (h1 : 1 ≤ m) (h2 : m ≤ 16) (hres : Hid (x % m = r)) (w : World) :
    Calls Try.prog 74 #[.int .i64 x, .int .i64 m] w fun e w' => e = .returned (.int .i64 r) ∧ w = w' := by
  have e := rest_emod x m h1
  rw [hres.out] at e
  have t := tmod_small x h1 h2
  have nm : m ≠ 0 := by omega
  go_enter Try.func74, Try.ntmps74
  go_wp2_with fail
  go_ret
  exact ⟨rfl, rfl⟩

set_option maxRecDepth 100000 in
set_option maxHeartbeats 2000000 in
theorem Beyond_any (bd : Int) (hbd1 : 1 ≤ bd) (hbd2 : bd ≤ 3) (iw ih : Int) (a : Option Addr) (c n : Nat) (xs : List Int) (hn : Hid (xs.length = n)) (x y : Int) (w : World) (hi1 : 1 ≤ iw) (hi2 : iw ≤ 16) (hi3 : 1 ≤ ih) (hi4 : ih ≤ 16) (hnn : Hid ((n : Int) = iw * ih)) (hx1 : -100 ≤ x) (hx2 : x ≤ 100) (hy1 : -100 ≤ y) (hy2 : y ≤ 100) (r : Int) (hres : Hid (beyF bd iw ih xs x y = r)) (hr : Rd w.heap.size w a xs) :
    Calls Try.prog 58 #[imv iw ih a n c, .int .u8 bd, .int .i64 x, .int .i64 y] w fun e w' => e = .returned (.int .i64 r) ∧ Below w.heap.size w w' := by
  have hn9 : n ≤ 256 := by
    have := hnn.out
    obtain ⟨m1, m2⟩ := mul_small (a := iw) (b := ih) (m := 16) (n := 16) (by omega) (by omega) (by omega) (by omega)
    omega
  have hB0 : Below w.heap.size w (w.alloc (.cells #[.int .i64 iw, .int .i64 ih, .slice a n c] 27)) := below_al (Below.refl _ _) _
  have k := Blk.new w 27 #[.int .i64 iw, .int .i64 ih, .slice a n c]
  obtain ⟨W, hW⟩ : ∃ W, w.alloc (.cells #[.int .i64 iw, .int .i64 ih, .slice a n c] 27) = W := ⟨_, rfl⟩
  rw [hW] at hB0 k
  obtain ⟨γ, hγ⟩ : ∃ γ, (inR x 0 (iw - 1) && inR y 0 (ih - 1)) = γ := ⟨_, rfl⟩
  have m0 := k.cell (i := 0) rfl
  have m1 := k.cell (i := 1) rfl
  have m2 := k.cell (i := 2) rfl
  go_enter Try.func58, Try.ntmps58
  go_wp2_with fail
  clear hW
  refine (Inside_any iw ih x y (.slice a n c) W (by omega) (by omega) (by omega) (by omega) ⟨_, _, _, rfl⟩).mono ?_
  rintro e W1 ⟨rfl, hb⟩
  rw [hγ]
  replace k := k.below hb k.lt
  replace hB0 := hB0.trans (hb.mono hB0.size)
  clear m0 m1 m2 hb
  have m0 := k.cell (i := 0) rfl
  have m1 := k.cell (i := 1) rfl
  have m2 := k.cell (i := 2) rfl
  cases γ with
  | true =>
    have hres2 := Lib.hid ((beyF_in hγ).symm.trans hres.out)
    simp only [Bool.and_eq_true, inR_true] at hγ
    obtain ⟨⟨g1, g2⟩, g3, g4⟩ := hγ
    obtain ⟨q1, q2, q3, q4⟩ := in_idx (iw := iw) (ih := ih) (u := x) (v := y) hi1 hnn.out g1 g2 g3 g4
    go_wp2_with fail
    refine (At_any iw ih x y a c xs n hn _ (Int.le_trans (by decide) q1) (Int.le_trans (Int.le_of_lt q4) (by omega)) q2 q3 (by omega) ((hr.below (Nat.le_refl _) hB0).mono hB0.size)).mono ?_
    rintro e W2 ⟨rfl, hb2⟩
    rw [hres2.out]
    go_wp2_with fail
    go_ret
    exact ⟨rfl, hB0.trans (hb2.mono hB0.size)⟩
  | false =>
    have hbd : bd = 1 ∨ bd = 2 ∨ bd = 3 := by omega
    clear hbd1 hbd2
    rcases hbd with rfl | rfl | rfl
    · have hres2 := Lib.hid ((beyF_out1 hγ).symm.trans hres.out)
      go_wp2_with fail
      go_ret
      exact ⟨ret_int hres2.out, hB0⟩
    · clear hγ
      obtain ⟨cx1, cx2⟩ := clamp_le (n := x) (lo := 0) (hi := iw - 1) (by omega)
      obtain ⟨cy1, cy2⟩ := clamp_le (n := y) (lo := 0) (hi := ih - 1) (by omega)
      obtain ⟨q1, q2, q3, q4⟩ := in_idx (iw := iw) (ih := ih) (u := clamp x 0 (iw - 1)) (v := clamp y 0 (ih - 1)) hi1 hnn.out cx1 cx2 cy1 cy2
      have hres2 := Lib.hid ((beyF_2 iw ih xs x y).symm.trans hres.out)
      have hS : Below W1.heap.size W1 W1.drew := (Below.refl _ _).drew
      have hBd : Below w.heap.size w W1.drew := hB0.trans (hS.mono hB0.size)
      go_wp2_with fail
      refine plain_region (fun W' => Below W1.heap.size W1 W') 13 13 (by kernel_rfl) rfl ?_
      simp only [Array.replicate_succ, Array.replicate_zero, List.push_toArray, List.nil_append, List.cons_append]
      refine take_op 0 (v := ?rv0) rfl (by kernel_rfl) (fun _ _ _ h => h) (by rfl) hS (fun w' hS' => ?ry0) ?rz0
      case ry0 =>
        have m0 := (k.below hS' k.lt).cell (i := 0) rfl
        have m1 := (k.below hS' k.lt).cell (i := 1) rfl
        have m2 := (k.below hS' k.lt).cell (i := 2) rfl
        go_simp
        rfl
      simp only [List.setIfInBounds_toArray, List.set_cons_zero, List.set_cons_succ]
      refine take_op 1 (v := ?rv1) rfl (by kernel_rfl) (fun _ _ _ h => h) (by rfl) hS (fun w' hS' => ?ry1) ?rz1
      case ry1 =>
        go_simp
        rfl
      simp only [List.setIfInBounds_toArray, List.set_cons_zero, List.set_cons_succ]
      refine take_op 2 (v := ?rv2) rfl (by kernel_rfl) (fun _ _ _ h => h) (by rfl) hS (fun w' hS' => ?ry2) ?rz2
      case ry2 =>
        go_simp
        rfl
      simp only [List.setIfInBounds_toArray, List.set_cons_zero, List.set_cons_succ]
      refine take_op 3 (v := ?rv3) rfl (by kernel_rfl) (fun _ _ _ h => h) (by rfl) hS (fun w' hS' => ?ry3) ?rz3
      case ry3 =>
        have m0 := (k.below hS' k.lt).cell (i := 0) rfl
        have m1 := (k.below hS' k.lt).cell (i := 1) rfl
        have m2 := (k.below hS' k.lt).cell (i := 2) rfl
        go_simp
        rfl
      simp only [List.setIfInBounds_toArray, List.set_cons_zero, List.set_cons_succ]
      refine take_op 4 (v := ?rv4) rfl (by kernel_rfl) (fun _ _ _ h => h) (by rfl) hS (fun w' hS' => ?ry4) ?rz4
      case ry4 =>
        go_simp
        try go_ints
        rfl
      simp only [List.setIfInBounds_toArray, List.set_cons_zero, List.set_cons_succ]
      refine take_op 6 (v := ?rv6) rfl (by kernel_rfl) (fun _ _ _ h => h) (by rfl) hS (fun w' hS' => ?ry6) ?rz6
      case ry6 =>
        go_simp
        rfl
      simp only [List.setIfInBounds_toArray, List.set_cons_zero, List.set_cons_succ]
      refine take_op 7 (v := ?rv7) rfl (by kernel_rfl) (fun _ _ _ h => h) (by rfl) hS (fun w' hS' => ?ry7) ?rz7
      case ry7 =>
        go_simp
        rfl
      simp only [List.setIfInBounds_toArray, List.set_cons_zero, List.set_cons_succ]
      refine take_op 8 (v := ?rv8) rfl (by kernel_rfl) (fun _ _ _ h => h) (by rfl) hS (fun w' hS' => ?ry8) ?rz8
      case ry8 =>
        have m0 := (k.below hS' k.lt).cell (i := 0) rfl
        have m1 := (k.below hS' k.lt).cell (i := 1) rfl
        have m2 := (k.below hS' k.lt).cell (i := 2) rfl
        go_simp
        rfl
      simp only [List.setIfInBounds_toArray, List.set_cons_zero, List.set_cons_succ]
      refine take_op 9 (v := ?rv9) rfl (by kernel_rfl) (fun _ _ _ h => h) (by rfl) hS (fun w' hS' => ?ry9) ?rz9
      case ry9 =>
        go_simp
        try go_ints
        rfl
      simp only [List.setIfInBounds_toArray, List.set_cons_zero, List.set_cons_succ]
      refine step_op 5 (by kernel_rfl) rfl (fun K hK => ?_)
      rw [if_pos (by rfl)]
      go_simp
      refine (Into_any x 0 (iw - 1) _).mono ?_
      rintro e V1 ⟨rfl, rfl⟩
      refine hK.out _ _ (fun h => hS) ?_
      clear hK K
      try simp only [Act.put, List.setIfInBounds_toArray, List.set_cons_zero, List.set_cons_succ]
      refine step_op 10 (by kernel_rfl) rfl (fun K hK => ?_)
      rw [if_pos (by rfl)]
      go_simp
      refine (Into_any y 0 (ih - 1) _).mono ?_
      rintro e V1 ⟨rfl, rfl⟩
      refine hK.out _ _ (fun h => hS) ?_
      clear hK K
      try simp only [Act.put, List.setIfInBounds_toArray, List.set_cons_zero, List.set_cons_succ]
      refine step_op 11 (by kernel_rfl) rfl (fun K hK => ?_)
      rw [if_pos (by rfl)]
      go_simp
      refine (At_any iw ih _ _ a c xs n hn _ (Int.le_trans (by decide) q1) (Int.le_trans (Int.le_of_lt q4) (by omega)) q2 q3 (by omega) ((hr.below (Nat.le_refl _) hBd).mono hBd.size)).mono ?_
      rintro e V2 ⟨rfl, hb2⟩
      rw [hres2.out]
      have hS2 : Below W1.heap.size W1 V2 := hS.trans (hb2.mono hS.size)
      refine hK.out _ _ (fun h => hS2) ?_
      clear hK K
      try simp only [Act.put, List.setIfInBounds_toArray, List.set_cons_zero, List.set_cons_succ]
      refine take_op 12 (v := ?rv12) rfl (by kernel_rfl) (fun _ _ _ h => h) (by rfl) hS2 (fun w' hS' => ?ry12) ?rz12
      case ry12 =>
        go_simp
        rfl
      simp only [List.setIfInBounds_toArray, List.set_cons_zero, List.set_cons_succ]
      refine done_ops (by kernel_rfl) ?_
      go_wp2_with fail
      go_ret
      exact ⟨rfl, hB0.trans (hS2.mono hB0.size)⟩
    · clear hγ
      obtain ⟨X, hX⟩ : ∃ X, x % iw = X := ⟨_, rfl⟩
      obtain ⟨Y, hY⟩ : ∃ Y, y % ih = Y := ⟨_, rfl⟩
      have eX := rest_emod x iw hi1
      have eY := rest_emod y ih hi3
      rw [hX] at eX
      rw [hY] at eY
      have bX : 0 ≤ X ∧ X ≤ iw - 1 := by
        have h1 := Int.emod_nonneg x (show iw ≠ 0 by omega)
        have h2 := Int.emod_lt_of_pos x (show 0 < iw by omega)
        omega
      have bY : 0 ≤ Y ∧ Y ≤ ih - 1 := by
        have h1 := Int.emod_nonneg y (show ih ≠ 0 by omega)
        have h2 := Int.emod_lt_of_pos y (show 0 < ih by omega)
        omega
      have tX : -16 ≤ x.tmod iw ∧ x.tmod iw ≤ 16 := tmod_small x (by omega) (by omega)
      have tY : -16 ≤ y.tmod ih ∧ y.tmod ih ≤ 16 := tmod_small y (by omega) (by omega)
      obtain ⟨q1, q2, q3, q4⟩ := in_idx (iw := iw) (ih := ih) (u := X) (v := Y) hi1 hnn.out bX.1 bX.2 bY.1 bY.2
      have hres2 := Lib.hid (show px xs (Y * iw + X) = r by rw [← hres.out, beyF_3, hX, hY])
      have nw : iw ≠ 0 := by omega
      have nh : ih ≠ 0 := by omega
      have hXH := Lib.hid hX
      have hYH := Lib.hid hY
      clear hX hY eX eY tX tY
      have hS : Below W1.heap.size W1 W1.drew := (Below.refl _ _).drew
      have hBd : Below w.heap.size w W1.drew := hB0.trans (hS.mono hB0.size)
      go_wp2_with fail
      refine plain_region (fun W' => Below W1.heap.size W1 W') 11 11 (by kernel_rfl) rfl ?_
      simp only [Array.replicate_succ, Array.replicate_zero, List.push_toArray, List.nil_append, List.cons_append]
      refine take_op 0 (v := ?uv0) rfl (by kernel_rfl) (fun _ _ _ h => h) (by rfl) hS (fun w' hS' => ?uy0) ?uz0
      case uy0 =>
        have m0 := (k.below hS' k.lt).cell (i := 0) rfl
        have m1 := (k.below hS' k.lt).cell (i := 1) rfl
        have m2 := (k.below hS' k.lt).cell (i := 2) rfl
        go_simp
        rfl
      simp only [List.setIfInBounds_toArray, List.set_cons_zero, List.set_cons_succ]
      refine take_op 1 (v := ?uv1) rfl (by kernel_rfl) (fun _ _ _ h => h) (by rfl) hS (fun w' hS' => ?uy1) ?uz1
      case uy1 =>
        go_simp
        rfl
      simp only [List.setIfInBounds_toArray, List.set_cons_zero, List.set_cons_succ]
      refine take_op 2 (v := ?uv2) rfl (by kernel_rfl) (fun _ _ _ h => h) (by rfl) hS (fun w' hS' => ?uy2) ?uz2
      case uy2 =>
        go_simp
        rfl
      simp only [List.setIfInBounds_toArray, List.set_cons_zero, List.set_cons_succ]
      refine take_op 3 (v := ?uv3) rfl (by kernel_rfl) (fun _ _ _ h => h) (by rfl) hS (fun w' hS' => ?uy3) ?uz3
      case uy3 =>
        have m0 := (k.below hS' k.lt).cell (i := 0) rfl
        have m1 := (k.below hS' k.lt).cell (i := 1) rfl
        have m2 := (k.below hS' k.lt).cell (i := 2) rfl
        go_simp
        rfl
      simp only [List.setIfInBounds_toArray, List.set_cons_zero, List.set_cons_succ]
      refine take_op 5 (v := ?uv5) rfl (by kernel_rfl) (fun _ _ _ h => h) (by rfl) hS (fun w' hS' => ?uy5) ?uz5
      case uy5 =>
        go_simp
        rfl
      simp only [List.setIfInBounds_toArray, List.set_cons_zero, List.set_cons_succ]
      refine take_op 6 (v := ?uv6) rfl (by kernel_rfl) (fun _ _ _ h => h) (by rfl) hS (fun w' hS' => ?uy6) ?uz6
      case uy6 =>
        go_simp
        rfl
      simp only [List.setIfInBounds_toArray, List.set_cons_zero, List.set_cons_succ]
      refine take_op 7 (v := ?uv7) rfl (by kernel_rfl) (fun _ _ _ h => h) (by rfl) hS (fun w' hS' => ?uy7) ?uz7
      case uy7 =>
        have m0 := (k.below hS' k.lt).cell (i := 0) rfl
        have m1 := (k.below hS' k.lt).cell (i := 1) rfl
        have m2 := (k.below hS' k.lt).cell (i := 2) rfl
        go_simp
        rfl
      simp only [List.setIfInBounds_toArray, List.set_cons_zero, List.set_cons_succ]
      refine step_op 4 (by kernel_rfl) rfl (fun K hK => ?_)
      rw [if_pos (by rfl)]
      go_simp
      refine (rest_any x iw X hi1 hi2 hXH _).mono ?_
      rintro e V1 ⟨rfl, rfl⟩
      refine hK.out _ _ (fun h => hS) ?_
      clear hK K
      try simp only [Act.put, List.setIfInBounds_toArray, List.set_cons_zero, List.set_cons_succ]
      refine step_op 8 (by kernel_rfl) rfl (fun K hK => ?_)
      rw [if_pos (by rfl)]
      go_simp
      refine (rest_any y ih Y hi3 hi4 hYH _).mono ?_
      rintro e V1 ⟨rfl, rfl⟩
      refine hK.out _ _ (fun h => hS) ?_
      clear hK K
      try simp only [Act.put, List.setIfInBounds_toArray, List.set_cons_zero, List.set_cons_succ]
      refine step_op 9 (by kernel_rfl) rfl (fun K hK => ?_)
      rw [if_pos (by rfl)]
      go_simp
      refine (At_any iw ih X Y a c xs n hn _ (Int.le_trans (by decide) q1) (Int.le_trans (Int.le_of_lt q4) (by omega)) q2 q3 (by omega) ((hr.below (Nat.le_refl _) hBd).mono hBd.size)).mono ?_
      rintro e V2 ⟨rfl, hb2⟩
      rw [hres2.out]
      have hS2 : Below W1.heap.size W1 V2 := hS.trans (hb2.mono hS.size)
      refine hK.out _ _ (fun h => hS2) ?_
      clear hK K
      try simp only [Act.put, List.setIfInBounds_toArray, List.set_cons_zero, List.set_cons_succ]
      refine take_op 10 (v := ?uv10) rfl (by kernel_rfl) (fun _ _ _ h => h) (by rfl) hS2 (fun w' hS' => ?uy10) ?uz10
      case uy10 =>
        go_simp
        rfl
      simp only [List.setIfInBounds_toArray, List.set_cons_zero, List.set_cons_succ]
      refine done_ops (by kernel_rfl) ?_
      go_wp2_with fail
      go_ret
      exact ⟨rfl, hB0.trans (hS2.mono hB0.size)⟩

/-- How the borders' functions are told in a map. -/
def fnR (v : Value) : Option (DataW Unit × List MemPlace) := match v with
  | .func (.func k) l m => if l = #[] ∧ m = #[] then some (.lit (.int .i64 k), []) else none
  | .nilFunc => some (.lit (.int .i64 (-1)), [])
  | _ => none
theorem fnR_func {v : Value} {k : Nat} {ps : List MemPlace} (h : fnR v = some (.lit (.int .i64 k), ps)) : v = .func (.func k) #[] #[] := by
  unfold fnR at h
  split at h
  · split at h
    · rename_i hc
      simp only [Option.some.injEq, Prod.mk.injEq, DataW.lit.injEq, Lit.int.injEq, true_and] at h
      obtain ⟨h1, _⟩ := h
      have : (_ : Nat) = k := Int.ofNat.inj h1
      rw [this, hc.1, hc.2]
    · simp at h
  · simp at h <;> omega
  · simp at h
theorem fnR_nil {v : Value} {ps : List MemPlace} (h : fnR v = some (.lit (.int .i64 (-1)), ps)) : v = .nilFunc := by
  unfold fnR at h
  split at h
  · split at h
    · simp at h <;> omega
    · simp at h
  · rfl
  · simp at h

end Go.Proofs.Ytbfigbpjoaccdaa
