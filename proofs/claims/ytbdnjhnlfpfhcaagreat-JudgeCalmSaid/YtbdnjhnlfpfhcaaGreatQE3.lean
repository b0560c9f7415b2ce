/- Contracts and laws (Ex). -/
import Derived.Test.YtbdnjhnlfpfhcaaGreatQE2
namespace Go.Proofs.YtbdnjhnlfpfhcaaGreat
open Go Go.RowKit Go.Shelf
set_option linter.unusedVariables false
set_option linter.unusedSimpArgs false

set_option maxHeartbeats 1000000 in
theorem eabs_any (n : Int) (hn : (Lit.int .i64 n).wf = true) (w : World) :
    Calls Tryz.prog 26 #[.int .i64 n] w fun e w' => e = .returned (.int .u64 (n.natAbs : Int)) ∧ w = w' := by
  have h0 : -9223372036854775808 ≤ n ∧ n ≤ 9223372036854775807 := by simpa [Lit.wf, IntKind.min, IntKind.max, IntKind.signed, IntKind.bits] using hn
  clear hn
  by_cases h : n < 0
  · have e : IntKind.u64.wrap (-IntKind.u64.wrap n) = (n.natAbs : Int) := by
      rw [IntKind.wrap_u64, IntKind.wrap_u64]
      omega
    have eH := Lib.hid e
    clear e h0
    go_enter Tryz.func26, Tryz.ntmps26
    go_wp2_with fail
    go_ret
    exact ⟨ret_u64 eH.out, rfl⟩
  · have e : IntKind.u64.wrap n = (n.natAbs : Int) := by
      rw [IntKind.wrap_u64]
      omega
    have eH := Lib.hid e
    clear e h0
    go_enter Tryz.func26, Tryz.ntmps26
    go_wp2_with fail
    go_ret
    exact ⟨ret_u64 eH.out, rfl⟩

set_option maxRecDepth 100000 in
set_option maxHeartbeats 1000000 in
theorem gcd_any (a b : Nat) (ha : a < two63) (hb : b < two63) (w : World) :
    Calls Tryz.prog 27 #[.int .u64 (a : Int), .int .u64 (b : Int)] w fun e w' => e = .returned (.int .u64 (Nat.gcd a b : Int)) ∧ Below w.heap.size w w' := by
  have haH := Lib.hid ha
  have hbH := Lib.hid hb
  clear ha hb
  go_enter Tryz.func27, Tryz.ntmps27
  go_wp2_with fail
  go_loopw [0, 1] (fun v u wr => ∃ x y : Nat, v = .int .u64 (x : Int) ∧ u = .int .u64 (y : Int) ∧ Hid (x < two63) ∧ Hid (y < two63) ∧ Hid (Nat.gcd x y = Nat.gcd a b) ∧ Below w.heap.size w wr) (fun _ u _ => (intOf u).toNat)
  case atStart => exact ⟨a, b, rfl, rfl, haH, hbH, Lib.hid rfl, Below.refl _ _⟩
  case round =>
    obtain ⟨x, y, rfl, rfl, hx, hy, hg, hB⟩ := hrel
    by_cases e : y = 0
    · subst e
      have hgx : x = Nat.gcd a b := by rw [← hg.out, Nat.gcd_zero_right]
      have hgxH := Lib.hid hgx
      clear hgx hg
      go_wp2_with fail
      go_ret
      rw [← hgxH.out]
      exact ⟨rfl, hB⟩
    · have e1 : ((y : Int) == 0) = false := by simp; omega
      have e2 : ((y : Int) != 0) = true := by simp; omega
      have e3 : ¬ (y : Int) = 0 := by omega
      obtain ⟨r, hr⟩ : ∃ r, x % y = r := ⟨_, rfl⟩
      have hry : r < y := by rw [← hr]; exact Nat.mod_lt _ (by omega)
      have hrw : Int.tmod (x : Int) (y : Int) = (r : Int) := by rw [← hr, Int.tmod_eq_emod_of_nonneg (by omega)]; simp
      have hrw2 : (x : Int) % (y : Int) = (r : Int) := by rw [← hr]; simp
      have hrH := Lib.hid hr
      have hS := (Below.refl wr.heap.size wr).drew
      clear hr
      go_wp2_with fail
      refine plain_region (fun W' => Below wr.heap.size wr W') 6 6 (by kernel_rfl) rfl ?_
      simp only [Array.replicate_succ, Array.replicate_zero, List.push_toArray, List.nil_append, List.cons_append]
      refine take_op 0 (v := ?rv0) rfl (by kernel_rfl) (fun _ _ _ h => h) (by rfl) hS (fun w' hS' => ?ry0) ?rz0
      case ry0 =>
        go_simp
        rfl
      simp only [List.setIfInBounds_toArray, List.set_cons_zero, List.set_cons_succ]
      refine take_op 1 (v := ?rv1) rfl (by kernel_rfl) (fun _ _ _ h => h) (by rfl) hS (fun w' hS' => ?ry1) ?rz1
      case ry1 =>
        go_simp
        rfl
      simp only [List.setIfInBounds_toArray, List.set_cons_zero, List.set_cons_succ]
      refine take_op 2 (v := ?rv2) rfl (by kernel_rfl) (fun _ _ _ h => h) (by rfl) hS (fun w' hS' => ?ry2) ?rz2
      case ry2 =>
        go_simp
        rfl
      simp only [List.setIfInBounds_toArray, List.set_cons_zero, List.set_cons_succ]
      refine take_op 3 (v := ?rv3) rfl (by kernel_rfl) (fun _ _ _ h => h) (by rfl) hS (fun w' hS' => ?ry3) ?rz3
      case ry3 =>
        go_simp
        try go_ints
        rfl
      simp only [List.setIfInBounds_toArray, List.set_cons_zero, List.set_cons_succ]
      refine take_op 4 (v := ?rv4) rfl (by kernel_rfl) (fun _ _ _ h => h) (by rfl) hS (fun w' hS' => ?ry4) ?rz4
      case ry4 =>
        go_simp
        rfl
      simp only [List.setIfInBounds_toArray, List.set_cons_zero, List.set_cons_succ]
      refine take_op 5 (v := ?rv5) rfl (by kernel_rfl) (fun _ _ _ h => h) (by rfl) hS (fun w' hS' => ?ry5) ?rz5
      case ry5 =>
        go_simp
        rfl
      simp only [List.setIfInBounds_toArray, List.set_cons_zero, List.set_cons_succ]
      refine done_ops (by kernel_rfl) ?_
      go_wp2_with fail
      go_roundw
      case rel => exact ⟨y, r, rfl, rfl, hy, Lib.hid (Nat.lt_trans hry hy.out), Lib.hid (by rw [← hg.out, gcd_rec x y, hrH.out]), hB.drew⟩
      case measure => simp [intOf] <;> omega

set_option maxRecDepth 100000 in
set_option maxHeartbeats 8000000 in
theorem evalid_any (num den : Int) (hn : (Lit.int .i64 num).wf = true) (hd : (Lit.int .i64 den).wf = true) (b c : Nat) (w : World) (kf : Blk w b 23 #[.int .i64 num, .int .i64 den]) :
    Calls Tryz.prog 29 #[.slice (some ⟨b, 0, none⟩) 1 c] w fun e w' => e = .returned (.bool (fracOk num den)) ∧ Below w.heap.size w w' := by
  have hlt := kf.lt
  go_enter Tryz.func29, Tryz.ntmps29
  go_wp2_with fail
  go_loopw [7] (fun i wr => ∃ k : Nat, k ≤ 1 ∧ i = .int .i64 (k : Int) ∧ Hid (k = 1 → fracOk num den = true) ∧ Below w.heap.size w wr) (fun i _ => 1 - (intOf i).toNat)
  case atStart => exact ⟨0, by omega, rfl, Lib.hid (by omega), Below.refl _ _⟩
  case round =>
    obtain ⟨k, hk, rfl, hok, hB⟩ := hrel
    by_cases hk1 : k = 1
    · subst hk1
      have hf := hok.out rfl
      have hfH := Lib.hid hf
      clear hf hok
      go_wp2_with fail
      go_ret
      exact ⟨ret_b hfH.out.symm, hB⟩
    · obtain rfl : k = 0 := by omega
      clear hok hk1
      have kr := kf.below hB hlt
      have c0 := kr.cell (i := 0) rfl
      have c1 := kr.cell (i := 1) rfl
      have hB2 := jwd_al hB (.cells #[.int .i64 num, .int .i64 den] 23)
      have k4 := Blk.new wr 23 #[.int .i64 num, .int .i64 den]
      obtain ⟨V, hV⟩ : ∃ V, wr.alloc (.cells #[.int .i64 num, .int .i64 den] 23) = V := ⟨_, rfl⟩
      have hlV : wr.heap.size < V.heap.size := by have := k4.lt; rw [hV] at this; exact this
      rw [hV] at hB2 k4
      have hS := (Below.refl V.heap.size V).drew
      have hVH := Lib.hid hV
      clear kr hB hV
      by_cases h1 : den < 1
      · have hb := Lib.hid (fracOk_bad (num := num) (den := den) (.inl h1))
        clear hn hd
        go_wp2_with fail
        rw [hVH.out]
        refine plain_region (fun W' => Below V.heap.size V W') 28 28 (by kernel_rfl) rfl ?_
        simp only [Array.replicate_succ, Array.replicate_zero, List.push_toArray, List.nil_append, List.cons_append]
        refine take_op 0 (v := ?q0v0) rfl (by kernel_rfl) (fun _ _ _ h => h) (by rfl) hS (fun w' hS' => ?q0y0) ?q0z0
        case q0y0 =>
          go_simp
          rfl
        simp only [List.setIfInBounds_toArray, List.set_cons_zero, List.set_cons_succ]
        refine take_op 1 (v := ?q0v1) rfl (by kernel_rfl) (fun _ _ _ h => h) (by rfl) hS (fun w' hS' => ?q0y1) ?q0z1
        case q0y1 =>
          have z0 := (k4.below hS' hlV).cell (i := 0) rfl
          have z1 := (k4.below hS' hlV).cell (i := 1) rfl
          clear hS'
          go_simp
          rfl
        simp only [List.setIfInBounds_toArray, List.set_cons_zero, List.set_cons_succ]
        refine take_op 2 (v := .bool true) rfl (by kernel_rfl) (fun _ _ _ h => h) (by rfl) hS (fun w' hS' => ?q0y2) ?q0z2
        case q0y2 =>
          clear hS'
          go_simp
          first | done | (simp; done) | (simp; omega)
        simp only [List.setIfInBounds_toArray, List.set_cons_zero, List.set_cons_succ]
        refine take_op 3 (v := ?q0v3) rfl (by kernel_rfl) (fun _ _ _ h => h) (by rfl) hS (fun w' hS' => ?q0y3) ?q0z3
        case q0y3 =>
          go_simp
          rfl
        simp only [List.setIfInBounds_toArray, List.set_cons_zero, List.set_cons_succ]
        refine pass_op 4 rfl (by kernel_rfl) (fun _ _ _ h => h) (by rfl) hS ?_
        simp only [List.setIfInBounds_toArray, List.set_cons_zero, List.set_cons_succ]
        refine pass_op 5 rfl (by kernel_rfl) (fun _ _ _ h => h) (by rfl) hS ?_
        simp only [List.setIfInBounds_toArray, List.set_cons_zero, List.set_cons_succ]
        refine pass_op 6 rfl (by kernel_rfl) (fun _ _ _ h => h) (by rfl) hS ?_
        simp only [List.setIfInBounds_toArray, List.set_cons_zero, List.set_cons_succ]
        refine take_op 7 (v := ?q0v7) rfl (by kernel_rfl) (fun _ _ _ h => h) (by rfl) hS (fun w' hS' => ?q0y7) ?q0z7
        case q0y7 =>
          go_simp
          rfl
        simp only [List.setIfInBounds_toArray, List.set_cons_zero, List.set_cons_succ]
        refine take_op 8 (v := ?q0v8) rfl (by kernel_rfl) (fun _ _ _ h => h) (by rfl) hS (fun w' hS' => ?q0y8) ?q0z8
        case q0y8 =>
          go_simp
          rfl
        simp only [List.setIfInBounds_toArray, List.set_cons_zero, List.set_cons_succ]
        refine pass_op 9 rfl (by kernel_rfl) (fun _ _ _ h => h) (by rfl) hS ?_
        simp only [List.setIfInBounds_toArray, List.set_cons_zero, List.set_cons_succ]
        refine pass_op 10 rfl (by kernel_rfl) (fun _ _ _ h => h) (by rfl) hS ?_
        simp only [List.setIfInBounds_toArray, List.set_cons_zero, List.set_cons_succ]
        refine pass_op 11 rfl (by kernel_rfl) (fun _ _ _ h => h) (by rfl) hS ?_
        simp only [List.setIfInBounds_toArray, List.set_cons_zero, List.set_cons_succ]
        refine take_op 12 (v := ?q0v12) rfl (by kernel_rfl) (fun _ _ _ h => h) (by rfl) hS (fun w' hS' => ?q0y12) ?q0z12
        case q0y12 =>
          go_simp
          rfl
        simp only [List.setIfInBounds_toArray, List.set_cons_zero, List.set_cons_succ]
        refine take_op 13 (v := ?q0v13) rfl (by kernel_rfl) (fun _ _ _ h => h) (by rfl) hS (fun w' hS' => ?q0y13) ?q0z13
        case q0y13 =>
          go_simp
          rfl
        simp only [List.setIfInBounds_toArray, List.set_cons_zero, List.set_cons_succ]
        refine pass_op 14 rfl (by kernel_rfl) (fun _ _ _ h => h) (by rfl) hS ?_
        simp only [List.setIfInBounds_toArray, List.set_cons_zero, List.set_cons_succ]
        refine pass_op 15 rfl (by kernel_rfl) (fun _ _ _ h => h) (by rfl) hS ?_
        simp only [List.setIfInBounds_toArray, List.set_cons_zero, List.set_cons_succ]
        refine pass_op 16 rfl (by kernel_rfl) (fun _ _ _ h => h) (by rfl) hS ?_
        simp only [List.setIfInBounds_toArray, List.set_cons_zero, List.set_cons_succ]
        refine take_op 17 (v := ?q0v17) rfl (by kernel_rfl) (fun _ _ _ h => h) (by rfl) hS (fun w' hS' => ?q0y17) ?q0z17
        case q0y17 =>
          go_simp
          rfl
        simp only [List.setIfInBounds_toArray, List.set_cons_zero, List.set_cons_succ]
        refine take_op 18 (v := ?q0v18) rfl (by kernel_rfl) (fun _ _ _ h => h) (by rfl) hS (fun w' hS' => ?q0y18) ?q0z18
        case q0y18 =>
          go_simp
          rfl
        simp only [List.setIfInBounds_toArray, List.set_cons_zero, List.set_cons_succ]
        refine pass_op 19 rfl (by kernel_rfl) (fun _ _ _ h => h) (by rfl) hS ?_
        simp only [List.setIfInBounds_toArray, List.set_cons_zero, List.set_cons_succ]
        refine pass_op 20 rfl (by kernel_rfl) (fun _ _ _ h => h) (by rfl) hS ?_
        simp only [List.setIfInBounds_toArray, List.set_cons_zero, List.set_cons_succ]
        refine pass_op 21 rfl (by kernel_rfl) (fun _ _ _ h => h) (by rfl) hS ?_
        simp only [List.setIfInBounds_toArray, List.set_cons_zero, List.set_cons_succ]
        refine pass_op 22 rfl (by kernel_rfl) (fun _ _ _ h => h) (by rfl) hS ?_
        simp only [List.setIfInBounds_toArray, List.set_cons_zero, List.set_cons_succ]
        refine pass_op 23 rfl (by kernel_rfl) (fun _ _ _ h => h) (by rfl) hS ?_
        simp only [List.setIfInBounds_toArray, List.set_cons_zero, List.set_cons_succ]
        refine pass_op 24 rfl (by kernel_rfl) (fun _ _ _ h => h) (by rfl) hS ?_
        simp only [List.setIfInBounds_toArray, List.set_cons_zero, List.set_cons_succ]
        refine pass_op 25 rfl (by kernel_rfl) (fun _ _ _ h => h) (by rfl) hS ?_
        simp only [List.setIfInBounds_toArray, List.set_cons_zero, List.set_cons_succ]
        refine pass_op 26 rfl (by kernel_rfl) (fun _ _ _ h => h) (by rfl) hS ?_
        simp only [List.setIfInBounds_toArray, List.set_cons_zero, List.set_cons_succ]
        refine take_op 27 (v := ?q0v27) rfl (by kernel_rfl) (fun _ _ _ h => h) (by rfl) hS (fun w' hS' => ?q0y27) ?q0z27
        case q0y27 =>
          go_simp
          rfl
        simp only [List.setIfInBounds_toArray, List.set_cons_zero, List.set_cons_succ]
        refine done_ops (by kernel_rfl) ?_
        go_wp2_with fail
        go_ret
        exact ⟨ret_b hb.out.symm, hB2.drew⟩
      by_cases h2 : 4611686018427387903 < den
      · have hb := Lib.hid (fracOk_bad (num := num) (den := den) (.inr (.inl h2)))
        clear hn hd
        go_wp2_with fail
        rw [hVH.out]
        refine plain_region (fun W' => Below V.heap.size V W') 28 28 (by kernel_rfl) rfl ?_
        simp only [Array.replicate_succ, Array.replicate_zero, List.push_toArray, List.nil_append, List.cons_append]
        refine take_op 0 (v := ?q1v0) rfl (by kernel_rfl) (fun _ _ _ h => h) (by rfl) hS (fun w' hS' => ?q1y0) ?q1z0
        case q1y0 =>
          go_simp
          rfl
        simp only [List.setIfInBounds_toArray, List.set_cons_zero, List.set_cons_succ]
        refine take_op 1 (v := ?q1v1) rfl (by kernel_rfl) (fun _ _ _ h => h) (by rfl) hS (fun w' hS' => ?q1y1) ?q1z1
        case q1y1 =>
          have z0 := (k4.below hS' hlV).cell (i := 0) rfl
          have z1 := (k4.below hS' hlV).cell (i := 1) rfl
          clear hS'
          go_simp
          rfl
        simp only [List.setIfInBounds_toArray, List.set_cons_zero, List.set_cons_succ]
        refine take_op 2 (v := .bool false) rfl (by kernel_rfl) (fun _ _ _ h => h) (by rfl) hS (fun w' hS' => ?q1y2) ?q1z2
        case q1y2 =>
          clear hS'
          go_simp
          first | done | (simp; done) | (simp; omega)
        simp only [List.setIfInBounds_toArray, List.set_cons_zero, List.set_cons_succ]
        refine take_op 3 (v := ?q1v3) rfl (by kernel_rfl) (fun _ _ _ h => h) (by rfl) hS (fun w' hS' => ?q1y3) ?q1z3
        case q1y3 =>
          go_simp
          rfl
        simp only [List.setIfInBounds_toArray, List.set_cons_zero, List.set_cons_succ]
        refine take_op 4 (v := ?q1v4) rfl (by kernel_rfl) (fun _ _ _ h => h) (by rfl) hS (fun w' hS' => ?q1y4) ?q1z4
        case q1y4 =>
          go_simp
          rfl
        simp only [List.setIfInBounds_toArray, List.set_cons_zero, List.set_cons_succ]
        refine take_op 5 (v := ?q1v5) rfl (by kernel_rfl) (fun _ _ _ h => h) (by rfl) hS (fun w' hS' => ?q1y5) ?q1z5
        case q1y5 =>
          have z0 := (k4.below hS' hlV).cell (i := 0) rfl
          have z1 := (k4.below hS' hlV).cell (i := 1) rfl
          clear hS'
          go_simp
          rfl
        simp only [List.setIfInBounds_toArray, List.set_cons_zero, List.set_cons_succ]
        refine take_op 6 (v := .bool true) rfl (by kernel_rfl) (fun _ _ _ h => h) (by rfl) hS (fun w' hS' => ?q1y6) ?q1z6
        case q1y6 =>
          clear hS'
          go_simp
          first | done | (simp; done) | (simp; omega)
        simp only [List.setIfInBounds_toArray, List.set_cons_zero, List.set_cons_succ]
        refine take_op 7 (v := ?q1v7) rfl (by kernel_rfl) (fun _ _ _ h => h) (by rfl) hS (fun w' hS' => ?q1y7) ?q1z7
        case q1y7 =>
          go_simp
          rfl
        simp only [List.setIfInBounds_toArray, List.set_cons_zero, List.set_cons_succ]
        refine take_op 8 (v := ?q1v8) rfl (by kernel_rfl) (fun _ _ _ h => h) (by rfl) hS (fun w' hS' => ?q1y8) ?q1z8
        case q1y8 =>
          go_simp
          rfl
        simp only [List.setIfInBounds_toArray, List.set_cons_zero, List.set_cons_succ]
        refine pass_op 9 rfl (by kernel_rfl) (fun _ _ _ h => h) (by rfl) hS ?_
        simp only [List.setIfInBounds_toArray, List.set_cons_zero, List.set_cons_succ]
        refine pass_op 10 rfl (by kernel_rfl) (fun _ _ _ h => h) (by rfl) hS ?_
        simp only [List.setIfInBounds_toArray, List.set_cons_zero, List.set_cons_succ]
        refine pass_op 11 rfl (by kernel_rfl) (fun _ _ _ h => h) (by rfl) hS ?_
        simp only [List.setIfInBounds_toArray, List.set_cons_zero, List.set_cons_succ]
        refine take_op 12 (v := ?q1v12) rfl (by kernel_rfl) (fun _ _ _ h => h) (by rfl) hS (fun w' hS' => ?q1y12) ?q1z12
        case q1y12 =>
          go_simp
          rfl
        simp only [List.setIfInBounds_toArray, List.set_cons_zero, List.set_cons_succ]
        refine take_op 13 (v := ?q1v13) rfl (by kernel_rfl) (fun _ _ _ h => h) (by rfl) hS (fun w' hS' => ?q1y13) ?q1z13
        case q1y13 =>
          go_simp
          rfl
        simp only [List.setIfInBounds_toArray, List.set_cons_zero, List.set_cons_succ]
        refine pass_op 14 rfl (by kernel_rfl) (fun _ _ _ h => h) (by rfl) hS ?_
        simp only [List.setIfInBounds_toArray, List.set_cons_zero, List.set_cons_succ]
        refine pass_op 15 rfl (by kernel_rfl) (fun _ _ _ h => h) (by rfl) hS ?_
        simp only [List.setIfInBounds_toArray, List.set_cons_zero, List.set_cons_succ]
        refine pass_op 16 rfl (by kernel_rfl) (fun _ _ _ h => h) (by rfl) hS ?_
        simp only [List.setIfInBounds_toArray, List.set_cons_zero, List.set_cons_succ]
        refine take_op 17 (v := ?q1v17) rfl (by kernel_rfl) (fun _ _ _ h => h) (by rfl) hS (fun w' hS' => ?q1y17) ?q1z17
        case q1y17 =>
          go_simp
          rfl
        simp only [List.setIfInBounds_toArray, List.set_cons_zero, List.set_cons_succ]
        refine take_op 18 (v := ?q1v18) rfl (by kernel_rfl) (fun _ _ _ h => h) (by rfl) hS (fun w' hS' => ?q1y18) ?q1z18
        case q1y18 =>
          go_simp
          rfl
        simp only [List.setIfInBounds_toArray, List.set_cons_zero, List.set_cons_succ]
        refine pass_op 19 rfl (by kernel_rfl) (fun _ _ _ h => h) (by rfl) hS ?_
        simp only [List.setIfInBounds_toArray, List.set_cons_zero, List.set_cons_succ]
        refine pass_op 20 rfl (by kernel_rfl) (fun _ _ _ h => h) (by rfl) hS ?_
        simp only [List.setIfInBounds_toArray, List.set_cons_zero, List.set_cons_succ]
        refine pass_op 21 rfl (by kernel_rfl) (fun _ _ _ h => h) (by rfl) hS ?_
        simp only [List.setIfInBounds_toArray, List.set_cons_zero, List.set_cons_succ]
        refine pass_op 22 rfl (by kernel_rfl) (fun _ _ _ h => h) (by rfl) hS ?_
        simp only [List.setIfInBounds_toArray, List.set_cons_zero, List.set_cons_succ]
        refine pass_op 23 rfl (by kernel_rfl) (fun _ _ _ h => h) (by rfl) hS ?_
        simp only [List.setIfInBounds_toArray, List.set_cons_zero, List.set_cons_succ]
        refine pass_op 24 rfl (by kernel_rfl) (fun _ _ _ h => h) (by rfl) hS ?_
        simp only [List.setIfInBounds_toArray, List.set_cons_zero, List.set_cons_succ]
        refine pass_op 25 rfl (by kernel_rfl) (fun _ _ _ h => h) (by rfl) hS ?_
        simp only [List.setIfInBounds_toArray, List.set_cons_zero, List.set_cons_succ]
        refine pass_op 26 rfl (by kernel_rfl) (fun _ _ _ h => h) (by rfl) hS ?_
        simp only [List.setIfInBounds_toArray, List.set_cons_zero, List.set_cons_succ]
        refine take_op 27 (v := ?q1v27) rfl (by kernel_rfl) (fun _ _ _ h => h) (by rfl) hS (fun w' hS' => ?q1y27) ?q1z27
        case q1y27 =>
          go_simp
          rfl
        simp only [List.setIfInBounds_toArray, List.set_cons_zero, List.set_cons_succ]
        refine done_ops (by kernel_rfl) ?_
        go_wp2_with fail
        go_ret
        exact ⟨ret_b hb.out.symm, hB2.drew⟩
      by_cases h3 : num < -4611686018427387903
      · have hb := Lib.hid (fracOk_bad (num := num) (den := den) (.inr (.inr (.inl h3))))
        clear hn hd
        go_wp2_with fail
        rw [hVH.out]
        refine plain_region (fun W' => Below V.heap.size V W') 28 28 (by kernel_rfl) rfl ?_
        simp only [Array.replicate_succ, Array.replicate_zero, List.push_toArray, List.nil_append, List.cons_append]
        refine take_op 0 (v := ?q2v0) rfl (by kernel_rfl) (fun _ _ _ h => h) (by rfl) hS (fun w' hS' => ?q2y0) ?q2z0
        case q2y0 =>
          go_simp
          rfl
        simp only [List.setIfInBounds_toArray, List.set_cons_zero, List.set_cons_succ]
        refine take_op 1 (v := ?q2v1) rfl (by kernel_rfl) (fun _ _ _ h => h) (by rfl) hS (fun w' hS' => ?q2y1) ?q2z1
        case q2y1 =>
          have z0 := (k4.below hS' hlV).cell (i := 0) rfl
          have z1 := (k4.below hS' hlV).cell (i := 1) rfl
          clear hS'
          go_simp
          rfl
        simp only [List.setIfInBounds_toArray, List.set_cons_zero, List.set_cons_succ]
        refine take_op 2 (v := .bool false) rfl (by kernel_rfl) (fun _ _ _ h => h) (by rfl) hS (fun w' hS' => ?q2y2) ?q2z2
        case q2y2 =>
          clear hS'
          go_simp
          first | done | (simp; done) | (simp; omega)
        simp only [List.setIfInBounds_toArray, List.set_cons_zero, List.set_cons_succ]
        refine take_op 3 (v := ?q2v3) rfl (by kernel_rfl) (fun _ _ _ h => h) (by rfl) hS (fun w' hS' => ?q2y3) ?q2z3
        case q2y3 =>
          go_simp
          rfl
        simp only [List.setIfInBounds_toArray, List.set_cons_zero, List.set_cons_succ]
        refine take_op 4 (v := ?q2v4) rfl (by kernel_rfl) (fun _ _ _ h => h) (by rfl) hS (fun w' hS' => ?q2y4) ?q2z4
        case q2y4 =>
          go_simp
          rfl
        simp only [List.setIfInBounds_toArray, List.set_cons_zero, List.set_cons_succ]
        refine take_op 5 (v := ?q2v5) rfl (by kernel_rfl) (fun _ _ _ h => h) (by rfl) hS (fun w' hS' => ?q2y5) ?q2z5
        case q2y5 =>
          have z0 := (k4.below hS' hlV).cell (i := 0) rfl
          have z1 := (k4.below hS' hlV).cell (i := 1) rfl
          clear hS'
          go_simp
          rfl
        simp only [List.setIfInBounds_toArray, List.set_cons_zero, List.set_cons_succ]
        refine take_op 6 (v := .bool false) rfl (by kernel_rfl) (fun _ _ _ h => h) (by rfl) hS (fun w' hS' => ?q2y6) ?q2z6
        case q2y6 =>
          clear hS'
          go_simp
          first | done | (simp; done) | (simp; omega)
        simp only [List.setIfInBounds_toArray, List.set_cons_zero, List.set_cons_succ]
        refine take_op 7 (v := ?q2v7) rfl (by kernel_rfl) (fun _ _ _ h => h) (by rfl) hS (fun w' hS' => ?q2y7) ?q2z7
        case q2y7 =>
          go_simp
          rfl
        simp only [List.setIfInBounds_toArray, List.set_cons_zero, List.set_cons_succ]
        refine take_op 8 (v := ?q2v8) rfl (by kernel_rfl) (fun _ _ _ h => h) (by rfl) hS (fun w' hS' => ?q2y8) ?q2z8
        case q2y8 =>
          go_simp
          rfl
        simp only [List.setIfInBounds_toArray, List.set_cons_zero, List.set_cons_succ]
        refine take_op 9 (v := ?q2v9) rfl (by kernel_rfl) (fun _ _ _ h => h) (by rfl) hS (fun w' hS' => ?q2y9) ?q2z9
        case q2y9 =>
          go_simp
          rfl
        simp only [List.setIfInBounds_toArray, List.set_cons_zero, List.set_cons_succ]
        refine take_op 10 (v := ?q2v10) rfl (by kernel_rfl) (fun _ _ _ h => h) (by rfl) hS (fun w' hS' => ?q2y10) ?q2z10
        case q2y10 =>
          have z0 := (k4.below hS' hlV).cell (i := 0) rfl
          have z1 := (k4.below hS' hlV).cell (i := 1) rfl
          clear hS'
          go_simp
          rfl
        simp only [List.setIfInBounds_toArray, List.set_cons_zero, List.set_cons_succ]
        refine take_op 11 (v := .bool true) rfl (by kernel_rfl) (fun _ _ _ h => h) (by rfl) hS (fun w' hS' => ?q2y11) ?q2z11
        case q2y11 =>
          clear hS'
          go_simp
          first | done | (simp; done) | (simp; omega)
        simp only [List.setIfInBounds_toArray, List.set_cons_zero, List.set_cons_succ]
        refine take_op 12 (v := ?q2v12) rfl (by kernel_rfl) (fun _ _ _ h => h) (by rfl) hS (fun w' hS' => ?q2y12) ?q2z12
        case q2y12 =>
          go_simp
          rfl
        simp only [List.setIfInBounds_toArray, List.set_cons_zero, List.set_cons_succ]
        refine take_op 13 (v := ?q2v13) rfl (by kernel_rfl) (fun _ _ _ h => h) (by rfl) hS (fun w' hS' => ?q2y13) ?q2z13
        case q2y13 =>
          go_simp
          rfl
        simp only [List.setIfInBounds_toArray, List.set_cons_zero, List.set_cons_succ]
        refine pass_op 14 rfl (by kernel_rfl) (fun _ _ _ h => h) (by rfl) hS ?_
        simp only [List.setIfInBounds_toArray, List.set_cons_zero, List.set_cons_succ]
        refine pass_op 15 rfl (by kernel_rfl) (fun _ _ _ h => h) (by rfl) hS ?_
        simp only [List.setIfInBounds_toArray, List.set_cons_zero, List.set_cons_succ]
        refine pass_op 16 rfl (by kernel_rfl) (fun _ _ _ h => h) (by rfl) hS ?_
        simp only [List.setIfInBounds_toArray, List.set_cons_zero, List.set_cons_succ]
        refine take_op 17 (v := ?q2v17) rfl (by kernel_rfl) (fun _ _ _ h => h) (by rfl) hS (fun w' hS' => ?q2y17) ?q2z17
        case q2y17 =>
          go_simp
          rfl
        simp only [List.setIfInBounds_toArray, List.set_cons_zero, List.set_cons_succ]
        refine take_op 18 (v := ?q2v18) rfl (by kernel_rfl) (fun _ _ _ h => h) (by rfl) hS (fun w' hS' => ?q2y18) ?q2z18
        case q2y18 =>
          go_simp
          rfl
        simp only [List.setIfInBounds_toArray, List.set_cons_zero, List.set_cons_succ]
        refine pass_op 19 rfl (by kernel_rfl) (fun _ _ _ h => h) (by rfl) hS ?_
        simp only [List.setIfInBounds_toArray, List.set_cons_zero, List.set_cons_succ]
        refine pass_op 20 rfl (by kernel_rfl) (fun _ _ _ h => h) (by rfl) hS ?_
        simp only [List.setIfInBounds_toArray, List.set_cons_zero, List.set_cons_succ]
        refine pass_op 21 rfl (by kernel_rfl) (fun _ _ _ h => h) (by rfl) hS ?_
        simp only [List.setIfInBounds_toArray, List.set_cons_zero, List.set_cons_succ]
        refine pass_op 22 rfl (by kernel_rfl) (fun _ _ _ h => h) (by rfl) hS ?_
        simp only [List.setIfInBounds_toArray, List.set_cons_zero, List.set_cons_succ]
        refine pass_op 23 rfl (by kernel_rfl) (fun _ _ _ h => h) (by rfl) hS ?_
        simp only [List.setIfInBounds_toArray, List.set_cons_zero, List.set_cons_succ]
        refine pass_op 24 rfl (by kernel_rfl) (fun _ _ _ h => h) (by rfl) hS ?_
        simp only [List.setIfInBounds_toArray, List.set_cons_zero, List.set_cons_succ]
        refine pass_op 25 rfl (by kernel_rfl) (fun _ _ _ h => h) (by rfl) hS ?_
        simp only [List.setIfInBounds_toArray, List.set_cons_zero, List.set_cons_succ]
        refine pass_op 26 rfl (by kernel_rfl) (fun _ _ _ h => h) (by rfl) hS ?_
        simp only [List.setIfInBounds_toArray, List.set_cons_zero, List.set_cons_succ]
        refine take_op 27 (v := ?q2v27) rfl (by kernel_rfl) (fun _ _ _ h => h) (by rfl) hS (fun w' hS' => ?q2y27) ?q2z27
        case q2y27 =>
          go_simp
          rfl
        simp only [List.setIfInBounds_toArray, List.set_cons_zero, List.set_cons_succ]
        refine done_ops (by kernel_rfl) ?_
        go_wp2_with fail
        go_ret
        exact ⟨ret_b hb.out.symm, hB2.drew⟩
      by_cases h4 : 4611686018427387903 < num
      · have hb := Lib.hid (fracOk_bad (num := num) (den := den) (.inr (.inr (.inr h4))))
        clear hn hd
        go_wp2_with fail
        rw [hVH.out]
        refine plain_region (fun W' => Below V.heap.size V W') 28 28 (by kernel_rfl) rfl ?_
        simp only [Array.replicate_succ, Array.replicate_zero, List.push_toArray, List.nil_append, List.cons_append]
        refine take_op 0 (v := ?q3v0) rfl (by kernel_rfl) (fun _ _ _ h => h) (by rfl) hS (fun w' hS' => ?q3y0) ?q3z0
        case q3y0 =>
          go_simp
          rfl
        simp only [List.setIfInBounds_toArray, List.set_cons_zero, List.set_cons_succ]
        refine take_op 1 (v := ?q3v1) rfl (by kernel_rfl) (fun _ _ _ h => h) (by rfl) hS (fun w' hS' => ?q3y1) ?q3z1
        case q3y1 =>
          have z0 := (k4.below hS' hlV).cell (i := 0) rfl
          have z1 := (k4.below hS' hlV).cell (i := 1) rfl
          clear hS'
          go_simp
          rfl
        simp only [List.setIfInBounds_toArray, List.set_cons_zero, List.set_cons_succ]
        refine take_op 2 (v := .bool false) rfl (by kernel_rfl) (fun _ _ _ h => h) (by rfl) hS (fun w' hS' => ?q3y2) ?q3z2
        case q3y2 =>
          clear hS'
          go_simp
          first | done | (simp; done) | (simp; omega)
        simp only [List.setIfInBounds_toArray, List.set_cons_zero, List.set_cons_succ]
        refine take_op 3 (v := ?q3v3) rfl (by kernel_rfl) (fun _ _ _ h => h) (by rfl) hS (fun w' hS' => ?q3y3) ?q3z3
        case q3y3 =>
          go_simp
          rfl
        simp only [List.setIfInBounds_toArray, List.set_cons_zero, List.set_cons_succ]
        refine take_op 4 (v := ?q3v4) rfl (by kernel_rfl) (fun _ _ _ h => h) (by rfl) hS (fun w' hS' => ?q3y4) ?q3z4
        case q3y4 =>
          go_simp
          rfl
        simp only [List.setIfInBounds_toArray, List.set_cons_zero, List.set_cons_succ]
        refine take_op 5 (v := ?q3v5) rfl (by kernel_rfl) (fun _ _ _ h => h) (by rfl) hS (fun w' hS' => ?q3y5) ?q3z5
        case q3y5 =>
          have z0 := (k4.below hS' hlV).cell (i := 0) rfl
          have z1 := (k4.below hS' hlV).cell (i := 1) rfl
          clear hS'
          go_simp
          rfl
        simp only [List.setIfInBounds_toArray, List.set_cons_zero, List.set_cons_succ]
        refine take_op 6 (v := .bool false) rfl (by kernel_rfl) (fun _ _ _ h => h) (by rfl) hS (fun w' hS' => ?q3y6) ?q3z6
        case q3y6 =>
          clear hS'
          go_simp
          first | done | (simp; done) | (simp; omega)
        simp only [List.setIfInBounds_toArray, List.set_cons_zero, List.set_cons_succ]
        refine take_op 7 (v := ?q3v7) rfl (by kernel_rfl) (fun _ _ _ h => h) (by rfl) hS (fun w' hS' => ?q3y7) ?q3z7
        case q3y7 =>
          go_simp
          rfl
        simp only [List.setIfInBounds_toArray, List.set_cons_zero, List.set_cons_succ]
        refine take_op 8 (v := ?q3v8) rfl (by kernel_rfl) (fun _ _ _ h => h) (by rfl) hS (fun w' hS' => ?q3y8) ?q3z8
        case q3y8 =>
          go_simp
          rfl
        simp only [List.setIfInBounds_toArray, List.set_cons_zero, List.set_cons_succ]
        refine take_op 9 (v := ?q3v9) rfl (by kernel_rfl) (fun _ _ _ h => h) (by rfl) hS (fun w' hS' => ?q3y9) ?q3z9
        case q3y9 =>
          go_simp
          rfl
        simp only [List.setIfInBounds_toArray, List.set_cons_zero, List.set_cons_succ]
        refine take_op 10 (v := ?q3v10) rfl (by kernel_rfl) (fun _ _ _ h => h) (by rfl) hS (fun w' hS' => ?q3y10) ?q3z10
        case q3y10 =>
          have z0 := (k4.below hS' hlV).cell (i := 0) rfl
          have z1 := (k4.below hS' hlV).cell (i := 1) rfl
          clear hS'
          go_simp
          rfl
        simp only [List.setIfInBounds_toArray, List.set_cons_zero, List.set_cons_succ]
        refine take_op 11 (v := .bool false) rfl (by kernel_rfl) (fun _ _ _ h => h) (by rfl) hS (fun w' hS' => ?q3y11) ?q3z11
        case q3y11 =>
          clear hS'
          go_simp
          first | done | (simp; done) | (simp; omega)
        simp only [List.setIfInBounds_toArray, List.set_cons_zero, List.set_cons_succ]
        refine take_op 12 (v := ?q3v12) rfl (by kernel_rfl) (fun _ _ _ h => h) (by rfl) hS (fun w' hS' => ?q3y12) ?q3z12
        case q3y12 =>
          go_simp
          rfl
        simp only [List.setIfInBounds_toArray, List.set_cons_zero, List.set_cons_succ]
        refine take_op 13 (v := ?q3v13) rfl (by kernel_rfl) (fun _ _ _ h => h) (by rfl) hS (fun w' hS' => ?q3y13) ?q3z13
        case q3y13 =>
          go_simp
          rfl
        simp only [List.setIfInBounds_toArray, List.set_cons_zero, List.set_cons_succ]
        refine take_op 14 (v := ?q3v14) rfl (by kernel_rfl) (fun _ _ _ h => h) (by rfl) hS (fun w' hS' => ?q3y14) ?q3z14
        case q3y14 =>
          go_simp
          rfl
        simp only [List.setIfInBounds_toArray, List.set_cons_zero, List.set_cons_succ]
        refine take_op 15 (v := ?q3v15) rfl (by kernel_rfl) (fun _ _ _ h => h) (by rfl) hS (fun w' hS' => ?q3y15) ?q3z15
        case q3y15 =>
          have z0 := (k4.below hS' hlV).cell (i := 0) rfl
          have z1 := (k4.below hS' hlV).cell (i := 1) rfl
          clear hS'
          go_simp
          rfl
        simp only [List.setIfInBounds_toArray, List.set_cons_zero, List.set_cons_succ]
        refine take_op 16 (v := .bool true) rfl (by kernel_rfl) (fun _ _ _ h => h) (by rfl) hS (fun w' hS' => ?q3y16) ?q3z16
        case q3y16 =>
          clear hS'
          go_simp
          first | done | (simp; done) | (simp; omega)
        simp only [List.setIfInBounds_toArray, List.set_cons_zero, List.set_cons_succ]
        refine take_op 17 (v := ?q3v17) rfl (by kernel_rfl) (fun _ _ _ h => h) (by rfl) hS (fun w' hS' => ?q3y17) ?q3z17
        case q3y17 =>
          go_simp
          rfl
        simp only [List.setIfInBounds_toArray, List.set_cons_zero, List.set_cons_succ]
        refine take_op 18 (v := ?q3v18) rfl (by kernel_rfl) (fun _ _ _ h => h) (by rfl) hS (fun w' hS' => ?q3y18) ?q3z18
        case q3y18 =>
          go_simp
          rfl
        simp only [List.setIfInBounds_toArray, List.set_cons_zero, List.set_cons_succ]
        refine pass_op 19 rfl (by kernel_rfl) (fun _ _ _ h => h) (by rfl) hS ?_
        simp only [List.setIfInBounds_toArray, List.set_cons_zero, List.set_cons_succ]
        refine pass_op 20 rfl (by kernel_rfl) (fun _ _ _ h => h) (by rfl) hS ?_
        simp only [List.setIfInBounds_toArray, List.set_cons_zero, List.set_cons_succ]
        refine pass_op 21 rfl (by kernel_rfl) (fun _ _ _ h => h) (by rfl) hS ?_
        simp only [List.setIfInBounds_toArray, List.set_cons_zero, List.set_cons_succ]
        refine pass_op 22 rfl (by kernel_rfl) (fun _ _ _ h => h) (by rfl) hS ?_
        simp only [List.setIfInBounds_toArray, List.set_cons_zero, List.set_cons_succ]
        refine pass_op 23 rfl (by kernel_rfl) (fun _ _ _ h => h) (by rfl) hS ?_
        simp only [List.setIfInBounds_toArray, List.set_cons_zero, List.set_cons_succ]
        refine pass_op 24 rfl (by kernel_rfl) (fun _ _ _ h => h) (by rfl) hS ?_
        simp only [List.setIfInBounds_toArray, List.set_cons_zero, List.set_cons_succ]
        refine pass_op 25 rfl (by kernel_rfl) (fun _ _ _ h => h) (by rfl) hS ?_
        simp only [List.setIfInBounds_toArray, List.set_cons_zero, List.set_cons_succ]
        refine pass_op 26 rfl (by kernel_rfl) (fun _ _ _ h => h) (by rfl) hS ?_
        simp only [List.setIfInBounds_toArray, List.set_cons_zero, List.set_cons_succ]
        refine take_op 27 (v := ?q3v27) rfl (by kernel_rfl) (fun _ _ _ h => h) (by rfl) hS (fun w' hS' => ?q3y27) ?q3z27
        case q3y27 =>
          go_simp
          rfl
        simp only [List.setIfInBounds_toArray, List.set_cons_zero, List.set_cons_succ]
        refine done_ops (by kernel_rfl) ?_
        go_wp2_with fail
        go_ret
        exact ⟨ret_b hb.out.symm, hB2.drew⟩
      have hg := fracOk_good h1 h2 h3 h4
      have n1 : num.natAbs < two63 := by rw [lt_two63]; omega
      have n2 : den.natAbs < two63 := by rw [lt_two63]; omega
      obtain ⟨x, hx⟩ : ∃ x, num.natAbs = x := ⟨_, rfl⟩
      obtain ⟨y, hy⟩ : ∃ y, den.natAbs = y := ⟨_, rfl⟩
      have c1 := fun (W : World) => eabs_any num hn W
      have c2 := fun (W : World) => eabs_any den hd W
      rw [hx] at n1 hg c1
      rw [hy] at n2 hg c2
      have c3 := fun (W : World) => gcd_any x y n1 n2 W
      obtain ⟨g, hgx⟩ : ∃ g, Nat.gcd x y = g := ⟨_, rfl⟩
      rw [hgx] at hg c3
      have hgH := Lib.hid hg
      have c1H := Lib.hid c1
      have c2H := Lib.hid c2
      have c3H := Lib.hid c3
      have hB2H := Lib.hid hB2
      clear hx hy hgx hg c1 c2 c3 n1 n2 hn hd hB2
      by_cases hg1 : g = 1
      · subst hg1
        go_wp2_with fail
        rw [hVH.out]
        refine plain_region (fun W' => Below V.heap.size V W') 28 28 (by kernel_rfl) rfl ?_
        simp only [Array.replicate_succ, Array.replicate_zero, List.push_toArray, List.nil_append, List.cons_append]
        refine take_op 0 (v := ?q4v0) rfl (by kernel_rfl) (fun _ _ _ h => h) (by rfl) hS (fun w' hS' => ?q4y0) ?q4z0
        case q4y0 =>
          go_simp
          rfl
        simp only [List.setIfInBounds_toArray, List.set_cons_zero, List.set_cons_succ]
        refine take_op 1 (v := ?q4v1) rfl (by kernel_rfl) (fun _ _ _ h => h) (by rfl) hS (fun w' hS' => ?q4y1) ?q4z1
        case q4y1 =>
          have z0 := (k4.below hS' hlV).cell (i := 0) rfl
          have z1 := (k4.below hS' hlV).cell (i := 1) rfl
          clear hS'
          go_simp
          rfl
        simp only [List.setIfInBounds_toArray, List.set_cons_zero, List.set_cons_succ]
        refine take_op 2 (v := .bool false) rfl (by kernel_rfl) (fun _ _ _ h => h) (by rfl) hS (fun w' hS' => ?q4y2) ?q4z2
        case q4y2 =>
          clear hS'
          go_simp
          first | done | (simp; done) | (simp; omega)
        simp only [List.setIfInBounds_toArray, List.set_cons_zero, List.set_cons_succ]
        refine take_op 3 (v := ?q4v3) rfl (by kernel_rfl) (fun _ _ _ h => h) (by rfl) hS (fun w' hS' => ?q4y3) ?q4z3
        case q4y3 =>
          go_simp
          rfl
        simp only [List.setIfInBounds_toArray, List.set_cons_zero, List.set_cons_succ]
        refine take_op 4 (v := ?q4v4) rfl (by kernel_rfl) (fun _ _ _ h => h) (by rfl) hS (fun w' hS' => ?q4y4) ?q4z4
        case q4y4 =>
          go_simp
          rfl
        simp only [List.setIfInBounds_toArray, List.set_cons_zero, List.set_cons_succ]
        refine take_op 5 (v := ?q4v5) rfl (by kernel_rfl) (fun _ _ _ h => h) (by rfl) hS (fun w' hS' => ?q4y5) ?q4z5
        case q4y5 =>
          have z0 := (k4.below hS' hlV).cell (i := 0) rfl
          have z1 := (k4.below hS' hlV).cell (i := 1) rfl
          clear hS'
          go_simp
          rfl
        simp only [List.setIfInBounds_toArray, List.set_cons_zero, List.set_cons_succ]
        refine take_op 6 (v := .bool false) rfl (by kernel_rfl) (fun _ _ _ h => h) (by rfl) hS (fun w' hS' => ?q4y6) ?q4z6
        case q4y6 =>
          clear hS'
          go_simp
          first | done | (simp; done) | (simp; omega)
        simp only [List.setIfInBounds_toArray, List.set_cons_zero, List.set_cons_succ]
        refine take_op 7 (v := ?q4v7) rfl (by kernel_rfl) (fun _ _ _ h => h) (by rfl) hS (fun w' hS' => ?q4y7) ?q4z7
        case q4y7 =>
          go_simp
          rfl
        simp only [List.setIfInBounds_toArray, List.set_cons_zero, List.set_cons_succ]
        refine take_op 8 (v := ?q4v8) rfl (by kernel_rfl) (fun _ _ _ h => h) (by rfl) hS (fun w' hS' => ?q4y8) ?q4z8
        case q4y8 =>
          go_simp
          rfl
        simp only [List.setIfInBounds_toArray, List.set_cons_zero, List.set_cons_succ]
        refine take_op 9 (v := ?q4v9) rfl (by kernel_rfl) (fun _ _ _ h => h) (by rfl) hS (fun w' hS' => ?q4y9) ?q4z9
        case q4y9 =>
          go_simp
          rfl
        simp only [List.setIfInBounds_toArray, List.set_cons_zero, List.set_cons_succ]
        refine take_op 10 (v := ?q4v10) rfl (by kernel_rfl) (fun _ _ _ h => h) (by rfl) hS (fun w' hS' => ?q4y10) ?q4z10
        case q4y10 =>
          have z0 := (k4.below hS' hlV).cell (i := 0) rfl
          have z1 := (k4.below hS' hlV).cell (i := 1) rfl
          clear hS'
          go_simp
          rfl
        simp only [List.setIfInBounds_toArray, List.set_cons_zero, List.set_cons_succ]
        refine take_op 11 (v := .bool false) rfl (by kernel_rfl) (fun _ _ _ h => h) (by rfl) hS (fun w' hS' => ?q4y11) ?q4z11
        case q4y11 =>
          clear hS'
          go_simp
          first | done | (simp; done) | (simp; omega)
        simp only [List.setIfInBounds_toArray, List.set_cons_zero, List.set_cons_succ]
        refine take_op 12 (v := ?q4v12) rfl (by kernel_rfl) (fun _ _ _ h => h) (by rfl) hS (fun w' hS' => ?q4y12) ?q4z12
        case q4y12 =>
          go_simp
          rfl
        simp only [List.setIfInBounds_toArray, List.set_cons_zero, List.set_cons_succ]
        refine take_op 13 (v := ?q4v13) rfl (by kernel_rfl) (fun _ _ _ h => h) (by rfl) hS (fun w' hS' => ?q4y13) ?q4z13
        case q4y13 =>
          go_simp
          rfl
        simp only [List.setIfInBounds_toArray, List.set_cons_zero, List.set_cons_succ]
        refine take_op 14 (v := ?q4v14) rfl (by kernel_rfl) (fun _ _ _ h => h) (by rfl) hS (fun w' hS' => ?q4y14) ?q4z14
        case q4y14 =>
          go_simp
          rfl
        simp only [List.setIfInBounds_toArray, List.set_cons_zero, List.set_cons_succ]
        refine take_op 15 (v := ?q4v15) rfl (by kernel_rfl) (fun _ _ _ h => h) (by rfl) hS (fun w' hS' => ?q4y15) ?q4z15
        case q4y15 =>
          have z0 := (k4.below hS' hlV).cell (i := 0) rfl
          have z1 := (k4.below hS' hlV).cell (i := 1) rfl
          clear hS'
          go_simp
          rfl
        simp only [List.setIfInBounds_toArray, List.set_cons_zero, List.set_cons_succ]
        refine take_op 16 (v := .bool false) rfl (by kernel_rfl) (fun _ _ _ h => h) (by rfl) hS (fun w' hS' => ?q4y16) ?q4z16
        case q4y16 =>
          clear hS'
          go_simp
          first | done | (simp; done) | (simp; omega)
        simp only [List.setIfInBounds_toArray, List.set_cons_zero, List.set_cons_succ]
        refine take_op 17 (v := ?q4v17) rfl (by kernel_rfl) (fun _ _ _ h => h) (by rfl) hS (fun w' hS' => ?q4y17) ?q4z17
        case q4y17 =>
          go_simp
          rfl
        simp only [List.setIfInBounds_toArray, List.set_cons_zero, List.set_cons_succ]
        refine take_op 18 (v := ?q4v18) rfl (by kernel_rfl) (fun _ _ _ h => h) (by rfl) hS (fun w' hS' => ?q4y18) ?q4z18
        case q4y18 =>
          go_simp
          rfl
        simp only [List.setIfInBounds_toArray, List.set_cons_zero, List.set_cons_succ]
        refine take_op 19 (v := ?q4v19) rfl (by kernel_rfl) (fun _ _ _ h => h) (by rfl) hS (fun w' hS' => ?q4y19) ?q4z19
        case q4y19 =>
          go_simp
          rfl
        simp only [List.setIfInBounds_toArray, List.set_cons_zero, List.set_cons_succ]
        refine take_op 20 (v := ?q4v20) rfl (by kernel_rfl) (fun _ _ _ h => h) (by rfl) hS (fun w' hS' => ?q4y20) ?q4z20
        case q4y20 =>
          have z0 := (k4.below hS' hlV).cell (i := 0) rfl
          have z1 := (k4.below hS' hlV).cell (i := 1) rfl
          clear hS'
          go_simp
          rfl
        simp only [List.setIfInBounds_toArray, List.set_cons_zero, List.set_cons_succ]
        refine take_op 22 (v := ?q4v22) rfl (by kernel_rfl) (fun _ _ _ h => h) (by rfl) hS (fun w' hS' => ?q4y22) ?q4z22
        case q4y22 =>
          go_simp
          rfl
        simp only [List.setIfInBounds_toArray, List.set_cons_zero, List.set_cons_succ]
        refine take_op 23 (v := ?q4v23) rfl (by kernel_rfl) (fun _ _ _ h => h) (by rfl) hS (fun w' hS' => ?q4y23) ?q4z23
        case q4y23 =>
          have z0 := (k4.below hS' hlV).cell (i := 0) rfl
          have z1 := (k4.below hS' hlV).cell (i := 1) rfl
          clear hS'
          go_simp
          rfl
        simp only [List.setIfInBounds_toArray, List.set_cons_zero, List.set_cons_succ]
        refine step_op 21 (by kernel_rfl) rfl (fun K hK => ?_)
        rw [if_pos (by rfl)]
        go_simp
        refine (c1H.out _).mono ?_
        rintro e W2 ⟨rfl, rfl⟩
        refine hK.out _ _ (fun h => hS) ?_
        clear hK K
        try simp only [Act.put, List.setIfInBounds_toArray, List.set_cons_zero, List.set_cons_succ]
        refine step_op 24 (by kernel_rfl) rfl (fun K hK => ?_)
        rw [if_pos (by rfl)]
        go_simp
        refine (c2H.out _).mono ?_
        rintro e W3 ⟨rfl, rfl⟩
        refine hK.out _ _ (fun h => hS) ?_
        clear hK K
        try simp only [Act.put, List.setIfInBounds_toArray, List.set_cons_zero, List.set_cons_succ]
        refine step_op 25 (by kernel_rfl) rfl (fun K hK => ?_)
        rw [if_pos (by rfl)]
        go_simp
        refine (c3H.out _).mono ?_
        rintro e W4 ⟨rfl, hb4⟩
        have hS4 := hS.trans (hb4.mono hS.size)
        refine hK.out _ _ (fun h => hS4) ?_
        clear hK K
        try simp only [Act.put, List.setIfInBounds_toArray, List.set_cons_zero, List.set_cons_succ]
        refine take_op 26 (v := .bool false) rfl (by kernel_rfl) (fun _ _ _ h => h) (by rfl) hS4 (fun w' hS' => ?q4y26) ?q4z26
        case q4y26 =>
          clear hS'
          go_simp
          first | done | rfl | (simp; done) | simp [e1]
        simp only [List.setIfInBounds_toArray, List.set_cons_zero, List.set_cons_succ]
        refine take_op 27 (v := ?q4v27) rfl (by kernel_rfl) (fun _ _ _ h => h) (by rfl) hS4 (fun w' hS' => ?q4y27) ?q4z27
        case q4y27 =>
          go_simp
          rfl
        simp only [List.setIfInBounds_toArray, List.set_cons_zero, List.set_cons_succ]
        refine done_ops (by kernel_rfl) ?_
        go_wp2_with fail
        go_roundw
        case rel => exact ⟨1, by omega, rfl, Lib.hid fun _ => by rw [hgH.out]; rfl, hB2H.out.trans (hS4.mono hB2H.out.size)⟩
        case measure => simp [intOf]
      · have e1 : ((g : Int) != 1) = true := by simp; omega
        have hgf : (g == 1) = false := by simp [hg1]
        go_wp2_with fail
        rw [hVH.out]
        refine plain_region (fun W' => Below V.heap.size V W') 28 28 (by kernel_rfl) rfl ?_
        simp only [Array.replicate_succ, Array.replicate_zero, List.push_toArray, List.nil_append, List.cons_append]
        refine take_op 0 (v := ?q5v0) rfl (by kernel_rfl) (fun _ _ _ h => h) (by rfl) hS (fun w' hS' => ?q5y0) ?q5z0
        case q5y0 =>
          go_simp
          rfl
        simp only [List.setIfInBounds_toArray, List.set_cons_zero, List.set_cons_succ]
        refine take_op 1 (v := ?q5v1) rfl (by kernel_rfl) (fun _ _ _ h => h) (by rfl) hS (fun w' hS' => ?q5y1) ?q5z1
        case q5y1 =>
          have z0 := (k4.below hS' hlV).cell (i := 0) rfl
          have z1 := (k4.below hS' hlV).cell (i := 1) rfl
          clear hS'
          go_simp
          rfl
        simp only [List.setIfInBounds_toArray, List.set_cons_zero, List.set_cons_succ]
        refine take_op 2 (v := .bool false) rfl (by kernel_rfl) (fun _ _ _ h => h) (by rfl) hS (fun w' hS' => ?q5y2) ?q5z2
        case q5y2 =>
          clear hS'
          go_simp
          first | done | (simp; done) | (simp; omega)
        simp only [List.setIfInBounds_toArray, List.set_cons_zero, List.set_cons_succ]
        refine take_op 3 (v := ?q5v3) rfl (by kernel_rfl) (fun _ _ _ h => h) (by rfl) hS (fun w' hS' => ?q5y3) ?q5z3
        case q5y3 =>
          go_simp
          rfl
        simp only [List.setIfInBounds_toArray, List.set_cons_zero, List.set_cons_succ]
        refine take_op 4 (v := ?q5v4) rfl (by kernel_rfl) (fun _ _ _ h => h) (by rfl) hS (fun w' hS' => ?q5y4) ?q5z4
        case q5y4 =>
          go_simp
          rfl
        simp only [List.setIfInBounds_toArray, List.set_cons_zero, List.set_cons_succ]
        refine take_op 5 (v := ?q5v5) rfl (by kernel_rfl) (fun _ _ _ h => h) (by rfl) hS (fun w' hS' => ?q5y5) ?q5z5
        case q5y5 =>
          have z0 := (k4.below hS' hlV).cell (i := 0) rfl
          have z1 := (k4.below hS' hlV).cell (i := 1) rfl
          clear hS'
          go_simp
          rfl
        simp only [List.setIfInBounds_toArray, List.set_cons_zero, List.set_cons_succ]
        refine take_op 6 (v := .bool false) rfl (by kernel_rfl) (fun _ _ _ h => h) (by rfl) hS (fun w' hS' => ?q5y6) ?q5z6
        case q5y6 =>
          clear hS'
          go_simp
          first | done | (simp; done) | (simp; omega)
        simp only [List.setIfInBounds_toArray, List.set_cons_zero, List.set_cons_succ]
        refine take_op 7 (v := ?q5v7) rfl (by kernel_rfl) (fun _ _ _ h => h) (by rfl) hS (fun w' hS' => ?q5y7) ?q5z7
        case q5y7 =>
          go_simp
          rfl
        simp only [List.setIfInBounds_toArray, List.set_cons_zero, List.set_cons_succ]
        refine take_op 8 (v := ?q5v8) rfl (by kernel_rfl) (fun _ _ _ h => h) (by rfl) hS (fun w' hS' => ?q5y8) ?q5z8
        case q5y8 =>
          go_simp
          rfl
        simp only [List.setIfInBounds_toArray, List.set_cons_zero, List.set_cons_succ]
        refine take_op 9 (v := ?q5v9) rfl (by kernel_rfl) (fun _ _ _ h => h) (by rfl) hS (fun w' hS' => ?q5y9) ?q5z9
        case q5y9 =>
          go_simp
          rfl
        simp only [List.setIfInBounds_toArray, List.set_cons_zero, List.set_cons_succ]
        refine take_op 10 (v := ?q5v10) rfl (by kernel_rfl) (fun _ _ _ h => h) (by rfl) hS (fun w' hS' => ?q5y10) ?q5z10
        case q5y10 =>
          have z0 := (k4.below hS' hlV).cell (i := 0) rfl
          have z1 := (k4.below hS' hlV).cell (i := 1) rfl
          clear hS'
          go_simp
          rfl
        simp only [List.setIfInBounds_toArray, List.set_cons_zero, List.set_cons_succ]
        refine take_op 11 (v := .bool false) rfl (by kernel_rfl) (fun _ _ _ h => h) (by rfl) hS (fun w' hS' => ?q5y11) ?q5z11
        case q5y11 =>
          clear hS'
          go_simp
          first | done | (simp; done) | (simp; omega)
        simp only [List.setIfInBounds_toArray, List.set_cons_zero, List.set_cons_succ]
        refine take_op 12 (v := ?q5v12) rfl (by kernel_rfl) (fun _ _ _ h => h) (by rfl) hS (fun w' hS' => ?q5y12) ?q5z12
        case q5y12 =>
          go_simp
          rfl
        simp only [List.setIfInBounds_toArray, List.set_cons_zero, List.set_cons_succ]
        refine take_op 13 (v := ?q5v13) rfl (by kernel_rfl) (fun _ _ _ h => h) (by rfl) hS (fun w' hS' => ?q5y13) ?q5z13
        case q5y13 =>
          go_simp
          rfl
        simp only [List.setIfInBounds_toArray, List.set_cons_zero, List.set_cons_succ]
        refine take_op 14 (v := ?q5v14) rfl (by kernel_rfl) (fun _ _ _ h => h) (by rfl) hS (fun w' hS' => ?q5y14) ?q5z14
        case q5y14 =>
          go_simp
          rfl
        simp only [List.setIfInBounds_toArray, List.set_cons_zero, List.set_cons_succ]
        refine take_op 15 (v := ?q5v15) rfl (by kernel_rfl) (fun _ _ _ h => h) (by rfl) hS (fun w' hS' => ?q5y15) ?q5z15
        case q5y15 =>
          have z0 := (k4.below hS' hlV).cell (i := 0) rfl
          have z1 := (k4.below hS' hlV).cell (i := 1) rfl
          clear hS'
          go_simp
          rfl
        simp only [List.setIfInBounds_toArray, List.set_cons_zero, List.set_cons_succ]
        refine take_op 16 (v := .bool false) rfl (by kernel_rfl) (fun _ _ _ h => h) (by rfl) hS (fun w' hS' => ?q5y16) ?q5z16
        case q5y16 =>
          clear hS'
          go_simp
          first | done | (simp; done) | (simp; omega)
        simp only [List.setIfInBounds_toArray, List.set_cons_zero, List.set_cons_succ]
        refine take_op 17 (v := ?q5v17) rfl (by kernel_rfl) (fun _ _ _ h => h) (by rfl) hS (fun w' hS' => ?q5y17) ?q5z17
        case q5y17 =>
          go_simp
          rfl
        simp only [List.setIfInBounds_toArray, List.set_cons_zero, List.set_cons_succ]
        refine take_op 18 (v := ?q5v18) rfl (by kernel_rfl) (fun _ _ _ h => h) (by rfl) hS (fun w' hS' => ?q5y18) ?q5z18
        case q5y18 =>
          go_simp
          rfl
        simp only [List.setIfInBounds_toArray, List.set_cons_zero, List.set_cons_succ]
        refine take_op 19 (v := ?q5v19) rfl (by kernel_rfl) (fun _ _ _ h => h) (by rfl) hS (fun w' hS' => ?q5y19) ?q5z19
        case q5y19 =>
          go_simp
          rfl
        simp only [List.setIfInBounds_toArray, List.set_cons_zero, List.set_cons_succ]
        refine take_op 20 (v := ?q5v20) rfl (by kernel_rfl) (fun _ _ _ h => h) (by rfl) hS (fun w' hS' => ?q5y20) ?q5z20
        case q5y20 =>
          have z0 := (k4.below hS' hlV).cell (i := 0) rfl
          have z1 := (k4.below hS' hlV).cell (i := 1) rfl
          clear hS'
          go_simp
          rfl
        simp only [List.setIfInBounds_toArray, List.set_cons_zero, List.set_cons_succ]
        refine take_op 22 (v := ?q5v22) rfl (by kernel_rfl) (fun _ _ _ h => h) (by rfl) hS (fun w' hS' => ?q5y22) ?q5z22
        case q5y22 =>
          go_simp
          rfl
        simp only [List.setIfInBounds_toArray, List.set_cons_zero, List.set_cons_succ]
        refine take_op 23 (v := ?q5v23) rfl (by kernel_rfl) (fun _ _ _ h => h) (by rfl) hS (fun w' hS' => ?q5y23) ?q5z23
        case q5y23 =>
          have z0 := (k4.below hS' hlV).cell (i := 0) rfl
          have z1 := (k4.below hS' hlV).cell (i := 1) rfl
          clear hS'
          go_simp
          rfl
        simp only [List.setIfInBounds_toArray, List.set_cons_zero, List.set_cons_succ]
        refine step_op 21 (by kernel_rfl) rfl (fun K hK => ?_)
        rw [if_pos (by rfl)]
        go_simp
        refine (c1H.out _).mono ?_
        rintro e W2 ⟨rfl, rfl⟩
        refine hK.out _ _ (fun h => hS) ?_
        clear hK K
        try simp only [Act.put, List.setIfInBounds_toArray, List.set_cons_zero, List.set_cons_succ]
        refine step_op 24 (by kernel_rfl) rfl (fun K hK => ?_)
        rw [if_pos (by rfl)]
        go_simp
        refine (c2H.out _).mono ?_
        rintro e W3 ⟨rfl, rfl⟩
        refine hK.out _ _ (fun h => hS) ?_
        clear hK K
        try simp only [Act.put, List.setIfInBounds_toArray, List.set_cons_zero, List.set_cons_succ]
        refine step_op 25 (by kernel_rfl) rfl (fun K hK => ?_)
        rw [if_pos (by rfl)]
        go_simp
        refine (c3H.out _).mono ?_
        rintro e W4 ⟨rfl, hb4⟩
        have hS4 := hS.trans (hb4.mono hS.size)
        refine hK.out _ _ (fun h => hS4) ?_
        clear hK K
        try simp only [Act.put, List.setIfInBounds_toArray, List.set_cons_zero, List.set_cons_succ]
        refine take_op 26 (v := .bool true) rfl (by kernel_rfl) (fun _ _ _ h => h) (by rfl) hS4 (fun w' hS' => ?q5y26) ?q5z26
        case q5y26 =>
          clear hS'
          go_simp
          first | done | rfl | (simp; done) | simp [e1]
        simp only [List.setIfInBounds_toArray, List.set_cons_zero, List.set_cons_succ]
        refine take_op 27 (v := ?q5v27) rfl (by kernel_rfl) (fun _ _ _ h => h) (by rfl) hS4 (fun w' hS' => ?q5y27) ?q5z27
        case q5y27 =>
          go_simp
          rfl
        simp only [List.setIfInBounds_toArray, List.set_cons_zero, List.set_cons_succ]
        refine done_ops (by kernel_rfl) ?_
        go_wp2_with fail
        go_ret
        exact ⟨ret_b (by rw [hgH.out, hgf]), hB2H.out.trans (hS4.mono hB2H.out.size)⟩

set_option maxHeartbeats 1000000 in
theorem eCheck_any (num den : Int) (hn : (Lit.int .i64 num).wf = true) (hd : (Lit.int .i64 den).wf = true) (v : Bool) (hv : fracOk num den = v) (w : World) :
    Calls Tryz.prog 53 #[frv num den] w fun e w' => e = .returned (.int .i64 (if v = true then 0 else 8)) ∧ Below w.heap.size w w' := by
  have hB1 : Below w.heap.size w (w.alloc (.cells #[.int .i64 num, .int .i64 den] 23)) := jwd_al (Below.refl _ _) _
  have k1 := Blk.new (w.alloc (.cells #[.int .i64 num, .int .i64 den] 23)) 23 #[.int .i64 num, .int .i64 den]
  have hB2 := jwd_al hB1 (.cells #[.int .i64 num, .int .i64 den] 23)
  have hc := evalid_any num den hn hd _ 1 _ k1
  rw [hv] at hc
  simp only [World.size_alloc] at hc
  have hc2 := hc.mono (fun e W' h => (⟨h.1, hB2.trans (h.2.mono (Nat.le_of_lt (Nat.lt_succ_of_lt (Nat.lt_succ_self _))))⟩ : e = .returned (.bool v) ∧ Below w.heap.size w W'))
  have hcH := Lib.hid hc2
  clear hn hd hv k1 hc hB1 hB2 hc2
  cases v with
  | true =>
    go_enter Tryz.func53, Tryz.ntmps53
    go_wp2_with (go_at_call 29; refine hcH.out.mono ?_; rintro e W1 ⟨rfl, hB3⟩)
    go_ret
    exact ⟨rfl, hB3⟩
  | false =>
    go_enter Tryz.func53, Tryz.ntmps53
    go_wp2_with (go_at_call 29; refine hcH.out.mono ?_; rintro e W1 ⟨rfl, hB3⟩)
    go_ret
    exact ⟨rfl, hB3⟩

/-- A limit: above 0 and less than 1, of a Den that is not too large. -/
def limB (num den : Int) : Bool := fracOk num den && decide (0 < num ∧ num < den ∧ den ≤ 1073741824)
theorem limB_no {num den : Int} (h : fracOk num den = false ∨ num ≤ 0 ∨ den ≤ num ∨ 1073741824 < den) : limB num den = false := by
  unfold limB
  rcases h with h | h
  · rw [h]; rfl
  · rw [show decide (0 < num ∧ num < den ∧ den ≤ 1073741824) = false by simp only [decide_eq_false_iff_not]; omega, Bool.and_false]
theorem limB_yes {num den : Int} (h : fracOk num den = true) (h1 : 0 < num) (h2 : num < den) (h3 : den ≤ 1073741824) : limB num den = true := by
  unfold limB
  rw [h, show decide (0 < num ∧ num < den ∧ den ≤ 1073741824) = true by simp only [decide_eq_true_eq]; omega]; rfl
theorem limB_true {num den : Int} (h : limB num den = true) : 0 < num ∧ num < den ∧ den ≤ 1073741824 := by
  unfold limB at h
  simp only [Bool.and_eq_true, decide_eq_true_eq] at h
  exact h.2


set_option maxRecDepth 100000 in
set_option maxHeartbeats 4000000 in
theorem limit_any (num den : Int) (hn : (Lit.int .i64 num).wf = true) (hd : (Lit.int .i64 den).wf = true) (w : World) :
    Calls Tryz.prog 24 #[frv num den] w fun e w' => e = .returned (.bool (limB num den)) ∧ Below w.heap.size w w' := by
  have k1 := Blk.new w 23 #[.int .i64 num, .int .i64 den]
  have hB1 : Below w.heap.size w (w.alloc (.cells #[.int .i64 num, .int .i64 den] 23)) := jwd_al (Below.refl _ _) _
  obtain ⟨W1, hW1⟩ : ∃ W, w.alloc (.cells #[.int .i64 num, .int .i64 den] 23) = W := ⟨_, rfl⟩
  rw [hW1] at k1 hB1
  have hB1H := Lib.hid hB1
  have m0 := k1.cell (i := 0) rfl
  have m1 := k1.cell (i := 1) rfl
  obtain ⟨v, hv⟩ : ∃ v, fracOk num den = v := ⟨_, rfl⟩
  clear hB1
  cases v with
  | false =>
    have hc := fun W => eCheck_any num den hn hd false hv W
    skip
    have hcH := Lib.hid hc
    have hvH := Lib.hid hv
    clear hc hv hn hd
    have hl := Lib.hid (limB_no (num := num) (den := den) (.inl hvH.out))
    go_enter Tryz.func24, Tryz.ntmps24
    go_wp2_with (go_at_call 53; refine (hcH.out _).mono ?_; rintro e W2 ⟨rfl, hb1⟩; have k2 := k1.below hb1 k1.lt; have hB2 := hB1H.out.trans (hb1.mono hB1H.out.size); clear m0 m1 hb1; have m0 := k2.cell (i := 0) rfl; have m1 := k2.cell (i := 1) rfl)
    go_ret
    exact ⟨ret_b (by rw [hl.out]; try (simp; omega)), hB2⟩
  | true =>
    have hc := fun W => eCheck_any num den hn hd true hv W
    skip
    have hcH := Lib.hid hc
    have hvH := Lib.hid hv
    clear hc hv hn hd
    by_cases h1 : num ≤ 0
    · have hl := Lib.hid (limB_no (num := num) (den := den) (.inr (.inl h1)))
      go_enter Tryz.func24, Tryz.ntmps24
      go_wp2_with (go_at_call 53; refine (hcH.out _).mono ?_; rintro e W2 ⟨rfl, hb1⟩; have k2 := k1.below hb1 k1.lt; have hB2 := hB1H.out.trans (hb1.mono hB1H.out.size); clear m0 m1 hb1; have m0 := k2.cell (i := 0) rfl; have m1 := k2.cell (i := 1) rfl)
      go_ret
      exact ⟨ret_b (by rw [hl.out]; try (simp; omega)), hB2⟩
    by_cases h2 : den ≤ num
    · have hl := Lib.hid (limB_no (num := num) (den := den) (.inr (.inr (.inl h2))))
      go_enter Tryz.func24, Tryz.ntmps24
      go_wp2_with (go_at_call 53; refine (hcH.out _).mono ?_; rintro e W2 ⟨rfl, hb1⟩; have k2 := k1.below hb1 k1.lt; have hB2 := hB1H.out.trans (hb1.mono hB1H.out.size); clear m0 m1 hb1; have m0 := k2.cell (i := 0) rfl; have m1 := k2.cell (i := 1) rfl)
      go_ret
      exact ⟨ret_b (by rw [hl.out]; try (simp; omega)), hB2⟩
    by_cases h3 : 1073741824 < den
    · have hl := Lib.hid (limB_no (num := num) (den := den) (.inr (.inr (.inr h3))))
      go_enter Tryz.func24, Tryz.ntmps24
      go_wp2_with (go_at_call 53; refine (hcH.out _).mono ?_; rintro e W2 ⟨rfl, hb1⟩; have k2 := k1.below hb1 k1.lt; have hB2 := hB1H.out.trans (hb1.mono hB1H.out.size); clear m0 m1 hb1; have m0 := k2.cell (i := 0) rfl; have m1 := k2.cell (i := 1) rfl)
      go_ret
      exact ⟨ret_b (by rw [hl.out]; try (simp; omega)), hB2⟩
    have hl := Lib.hid (limB_yes hvH.out (show 0 < num by omega) (show num < den by omega) (show den ≤ 1073741824 by omega))
    go_enter Tryz.func24, Tryz.ntmps24
    go_wp2_with (go_at_call 53; refine (hcH.out _).mono ?_; rintro e W2 ⟨rfl, hb1⟩; have k2 := k1.below hb1 k1.lt; have hB2 := hB1H.out.trans (hb1.mono hB1H.out.size); clear m0 m1 hb1; have m0 := k2.cell (i := 0) rfl; have m1 := k2.cell (i := 1) rfl)
    go_ret
    exact ⟨ret_b (by rw [hl.out]; try (simp; omega)), hB2⟩

set_option maxRecDepth 100000 in
set_option maxHeartbeats 4000000 in
theorem rLimit_any (num den : Int) (hn : (Lit.int .i64 num).wf = true) (hd : (Lit.int .i64 den).wf = true) (w : World) :
    Calls Tryz.prog 31 #[frv num den] w fun e w' => e = .returned (.bool (limB num den)) ∧ Below w.heap.size w w' := by
  have k1 := Blk.new w 23 #[.int .i64 num, .int .i64 den]
  have hB1 : Below w.heap.size w (w.alloc (.cells #[.int .i64 num, .int .i64 den] 23)) := jwd_al (Below.refl _ _) _
  obtain ⟨W1, hW1⟩ : ∃ W, w.alloc (.cells #[.int .i64 num, .int .i64 den] 23) = W := ⟨_, rfl⟩
  rw [hW1] at k1 hB1
  have hB1H := Lib.hid hB1
  have m0 := k1.cell (i := 0) rfl
  have m1 := k1.cell (i := 1) rfl
  obtain ⟨v, hv⟩ : ∃ v, fracOk num den = v := ⟨_, rfl⟩
  clear hB1
  cases v with
  | false =>
    have hc := fun W => rValid_any num den hn hd W
    rw [hv] at hc
    have hcH := Lib.hid hc
    have hvH := Lib.hid hv
    clear hc hv hn hd
    have hl := Lib.hid (limB_no (num := num) (den := den) (.inl hvH.out))
    go_enter Tryz.func31, Tryz.ntmps31
    go_wp2_with (go_at_call 60; refine (hcH.out _).mono ?_; rintro e W2 ⟨rfl, hb1⟩; have k2 := k1.below hb1 k1.lt; have hB2 := hB1H.out.trans (hb1.mono hB1H.out.size); clear m0 m1 hb1; have m0 := k2.cell (i := 0) rfl; have m1 := k2.cell (i := 1) rfl)
    go_ret
    exact ⟨ret_b (by rw [hl.out]; try (simp; omega)), hB2⟩
  | true =>
    have hc := fun W => rValid_any num den hn hd W
    rw [hv] at hc
    have hcH := Lib.hid hc
    have hvH := Lib.hid hv
    clear hc hv hn hd
    by_cases h1 : num ≤ 0
    · have hl := Lib.hid (limB_no (num := num) (den := den) (.inr (.inl h1)))
      go_enter Tryz.func31, Tryz.ntmps31
      go_wp2_with (go_at_call 60; refine (hcH.out _).mono ?_; rintro e W2 ⟨rfl, hb1⟩; have k2 := k1.below hb1 k1.lt; have hB2 := hB1H.out.trans (hb1.mono hB1H.out.size); clear m0 m1 hb1; have m0 := k2.cell (i := 0) rfl; have m1 := k2.cell (i := 1) rfl)
      go_ret
      exact ⟨ret_b (by rw [hl.out]; try (simp; omega)), hB2⟩
    by_cases h2 : den ≤ num
    · have hl := Lib.hid (limB_no (num := num) (den := den) (.inr (.inr (.inl h2))))
      go_enter Tryz.func31, Tryz.ntmps31
      go_wp2_with (go_at_call 60; refine (hcH.out _).mono ?_; rintro e W2 ⟨rfl, hb1⟩; have k2 := k1.below hb1 k1.lt; have hB2 := hB1H.out.trans (hb1.mono hB1H.out.size); clear m0 m1 hb1; have m0 := k2.cell (i := 0) rfl; have m1 := k2.cell (i := 1) rfl)
      go_ret
      exact ⟨ret_b (by rw [hl.out]; try (simp; omega)), hB2⟩
    by_cases h3 : 1073741824 < den
    · have hl := Lib.hid (limB_no (num := num) (den := den) (.inr (.inr (.inr h3))))
      go_enter Tryz.func31, Tryz.ntmps31
      go_wp2_with (go_at_call 60; refine (hcH.out _).mono ?_; rintro e W2 ⟨rfl, hb1⟩; have k2 := k1.below hb1 k1.lt; have hB2 := hB1H.out.trans (hb1.mono hB1H.out.size); clear m0 m1 hb1; have m0 := k2.cell (i := 0) rfl; have m1 := k2.cell (i := 1) rfl)
      go_ret
      exact ⟨ret_b (by rw [hl.out]; try (simp; omega)), hB2⟩
    have hl := Lib.hid (limB_yes hvH.out (show 0 < num by omega) (show num < den by omega) (show den ≤ 1073741824 by omega))
    go_enter Tryz.func31, Tryz.ntmps31
    go_wp2_with (go_at_call 60; refine (hcH.out _).mono ?_; rintro e W2 ⟨rfl, hb1⟩; have k2 := k1.below hb1 k1.lt; have hB2 := hB1H.out.trans (hb1.mono hB1H.out.size); clear m0 m1 hb1; have m0 := k2.cell (i := 0) rfl; have m1 := k2.cell (i := 1) rfl)
    go_ret
    exact ⟨ret_b (by rw [hl.out]; try (simp; omega)), hB2⟩


end Go.Proofs.YtbdnjhnlfpfhcaaGreat
