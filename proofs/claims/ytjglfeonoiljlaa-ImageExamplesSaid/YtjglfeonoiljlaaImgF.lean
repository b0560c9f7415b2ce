/- The contracts of the specification's Source, ValidWarp, Warp, Turn and Flip. -/
import Derived.Test.YtjglfeonoiljlaaImgE
namespace Go.Proofs.Ytjglfeonoiljlaa
open Go Go.RowKit Go.Shelf
set_option linter.unusedVariables false
set_option linter.unusedSimpArgs false

set_option maxRecDepth 100000 in
set_option maxHeartbeats 1000000 in
theorem Source_any (t : WarpN) (x y : Int) (w : World) (ht : t.ok = true) (hx1 : 0 ≤ x) (hx2 : x ≤ 16) (hy1 : 0 ≤ y) (hy2 : y ≤ 16) :
    Calls Try.prog 85 #[t.val, .int .i64 x, .int .i64 y] w fun e w' => e = .returned (.tuple #[.int .i64 (src t.a t.b t.c t.den x y), .int .i64 (src t.d t.e t.f t.den x y)]) ∧ Below w.heap.size w w' := by
  simp only [WarpN.ok, Bool.and_eq_true, inR_true] at ht
  obtain ⟨⟨⟨⟨⟨⟨⟨b11, b12⟩, b21, b22⟩, b31, b32⟩, b41, b42⟩, b51, b52⟩, b61, b62⟩, bd1, bd2⟩ := ht
  obtain ⟨p1, p1'⟩ := prod_bd b11 b12 hx1 hx2 (by omega)
  obtain ⟨p2, p2'⟩ := prod_bd b21 b22 hy1 hy2 (by omega)
  obtain ⟨p4, p4'⟩ := prod_bd b41 b42 hx1 hx2 (by omega)
  obtain ⟨p5, p5'⟩ := prod_bd b51 b52 hy1 hy2 (by omega)
  have k6 := Blk.new w 26 t.cells
  have hS : Below (w.alloc (.cells t.cells 26)).heap.size (w.alloc (.cells t.cells 26)) (w.alloc (.cells t.cells 26)).drew := (Below.refl _ _).drew
  have hSH := Lib.hid hS
  clear hS
  go_enter Try.func85, Try.ntmps85
  go_wp2_with fail
  refine plain_region (fun W' => Below (w.alloc (.cells t.cells 26)).heap.size (w.alloc (.cells t.cells 26)) W') 42 42 (by kernel_rfl) rfl ?_
  simp only [Array.replicate_succ, Array.replicate_zero, List.push_toArray, List.nil_append, List.cons_append]
  refine take_op 0 (v := ?rv0) rfl (by kernel_rfl) (fun _ _ _ h => h) (by rfl) hSH.out (fun w' hS' => ?ry0) ?rz0
  case ry0 =>
    go_simp
    rfl
  simp only [List.setIfInBounds_toArray, List.set_cons_zero, List.set_cons_succ]
  refine take_op 1 (v := ?rv1) rfl (by kernel_rfl) (fun _ _ _ h => h) (by rfl) hSH.out (fun w' hS' => ?ry1) ?rz1
  case ry1 =>
    have a0 := (k6.below hS' k6.lt).cell (i := 0) rfl
    have a1 := (k6.below hS' k6.lt).cell (i := 1) rfl
    have a2 := (k6.below hS' k6.lt).cell (i := 2) rfl
    have a3 := (k6.below hS' k6.lt).cell (i := 3) rfl
    have a4 := (k6.below hS' k6.lt).cell (i := 4) rfl
    have a5 := (k6.below hS' k6.lt).cell (i := 5) rfl
    have a6 := (k6.below hS' k6.lt).cell (i := 6) rfl
    go_simp
    rfl
  simp only [List.setIfInBounds_toArray, List.set_cons_zero, List.set_cons_succ]
  refine take_op 2 (v := ?rv2) rfl (by kernel_rfl) (fun _ _ _ h => h) (by rfl) hSH.out (fun w' hS' => ?ry2) ?rz2
  case ry2 =>
    go_simp
    rfl
  simp only [List.setIfInBounds_toArray, List.set_cons_zero, List.set_cons_succ]
  refine take_op 3 (v := ?rv3) rfl (by kernel_rfl) (fun _ _ _ h => h) (by rfl) hSH.out (fun w' hS' => ?ry3) ?rz3
  case ry3 =>
    go_simp
    try go_ints
    rfl
  simp only [List.setIfInBounds_toArray, List.set_cons_zero, List.set_cons_succ]
  refine take_op 4 (v := ?rv4) rfl (by kernel_rfl) (fun _ _ _ h => h) (by rfl) hSH.out (fun w' hS' => ?ry4) ?rz4
  case ry4 =>
    go_simp
    rfl
  simp only [List.setIfInBounds_toArray, List.set_cons_zero, List.set_cons_succ]
  refine take_op 5 (v := ?rv5) rfl (by kernel_rfl) (fun _ _ _ h => h) (by rfl) hSH.out (fun w' hS' => ?ry5) ?rz5
  case ry5 =>
    have a0 := (k6.below hS' k6.lt).cell (i := 0) rfl
    have a1 := (k6.below hS' k6.lt).cell (i := 1) rfl
    have a2 := (k6.below hS' k6.lt).cell (i := 2) rfl
    have a3 := (k6.below hS' k6.lt).cell (i := 3) rfl
    have a4 := (k6.below hS' k6.lt).cell (i := 4) rfl
    have a5 := (k6.below hS' k6.lt).cell (i := 5) rfl
    have a6 := (k6.below hS' k6.lt).cell (i := 6) rfl
    go_simp
    rfl
  simp only [List.setIfInBounds_toArray, List.set_cons_zero, List.set_cons_succ]
  refine take_op 6 (v := ?rv6) rfl (by kernel_rfl) (fun _ _ _ h => h) (by rfl) hSH.out (fun w' hS' => ?ry6) ?rz6
  case ry6 =>
    go_simp
    rfl
  simp only [List.setIfInBounds_toArray, List.set_cons_zero, List.set_cons_succ]
  refine take_op 7 (v := ?rv7) rfl (by kernel_rfl) (fun _ _ _ h => h) (by rfl) hSH.out (fun w' hS' => ?ry7) ?rz7
  case ry7 =>
    go_simp
    try go_ints
    rfl
  simp only [List.setIfInBounds_toArray, List.set_cons_zero, List.set_cons_succ]
  refine take_op 8 (v := ?rv8) rfl (by kernel_rfl) (fun _ _ _ h => h) (by rfl) hSH.out (fun w' hS' => ?ry8) ?rz8
  case ry8 =>
    go_simp
    try go_ints
    rfl
  simp only [List.setIfInBounds_toArray, List.set_cons_zero, List.set_cons_succ]
  refine take_op 9 (v := ?rv9) rfl (by kernel_rfl) (fun _ _ _ h => h) (by rfl) hSH.out (fun w' hS' => ?ry9) ?rz9
  case ry9 =>
    go_simp
    rfl
  simp only [List.setIfInBounds_toArray, List.set_cons_zero, List.set_cons_succ]
  refine take_op 10 (v := ?rv10) rfl (by kernel_rfl) (fun _ _ _ h => h) (by rfl) hSH.out (fun w' hS' => ?ry10) ?rz10
  case ry10 =>
    have a0 := (k6.below hS' k6.lt).cell (i := 0) rfl
    have a1 := (k6.below hS' k6.lt).cell (i := 1) rfl
    have a2 := (k6.below hS' k6.lt).cell (i := 2) rfl
    have a3 := (k6.below hS' k6.lt).cell (i := 3) rfl
    have a4 := (k6.below hS' k6.lt).cell (i := 4) rfl
    have a5 := (k6.below hS' k6.lt).cell (i := 5) rfl
    have a6 := (k6.below hS' k6.lt).cell (i := 6) rfl
    go_simp
    rfl
  simp only [List.setIfInBounds_toArray, List.set_cons_zero, List.set_cons_succ]
  refine take_op 11 (v := ?rv11) rfl (by kernel_rfl) (fun _ _ _ h => h) (by rfl) hSH.out (fun w' hS' => ?ry11) ?rz11
  case ry11 =>
    go_simp
    try go_ints
    rfl
  simp only [List.setIfInBounds_toArray, List.set_cons_zero, List.set_cons_succ]
  refine take_op 12 (v := ?rv12) rfl (by kernel_rfl) (fun _ _ _ h => h) (by rfl) hSH.out (fun w' hS' => ?ry12) ?rz12
  case ry12 =>
    go_simp
    try go_ints
    rfl
  simp only [List.setIfInBounds_toArray, List.set_cons_zero, List.set_cons_succ]
  refine take_op 13 (v := ?rv13) rfl (by kernel_rfl) (fun _ _ _ h => h) (by rfl) hSH.out (fun w' hS' => ?ry13) ?rz13
  case ry13 =>
    go_simp
    rfl
  simp only [List.setIfInBounds_toArray, List.set_cons_zero, List.set_cons_succ]
  refine take_op 14 (v := ?rv14) rfl (by kernel_rfl) (fun _ _ _ h => h) (by rfl) hSH.out (fun w' hS' => ?ry14) ?rz14
  case ry14 =>
    have a0 := (k6.below hS' k6.lt).cell (i := 0) rfl
    have a1 := (k6.below hS' k6.lt).cell (i := 1) rfl
    have a2 := (k6.below hS' k6.lt).cell (i := 2) rfl
    have a3 := (k6.below hS' k6.lt).cell (i := 3) rfl
    have a4 := (k6.below hS' k6.lt).cell (i := 4) rfl
    have a5 := (k6.below hS' k6.lt).cell (i := 5) rfl
    have a6 := (k6.below hS' k6.lt).cell (i := 6) rfl
    go_simp
    rfl
  simp only [List.setIfInBounds_toArray, List.set_cons_zero, List.set_cons_succ]
  refine take_op 15 (v := ?rv15) rfl (by kernel_rfl) (fun _ _ _ h => h) (by rfl) hSH.out (fun w' hS' => ?ry15) ?rz15
  case ry15 =>
    go_simp
    try go_ints
    rfl
  simp only [List.setIfInBounds_toArray, List.set_cons_zero, List.set_cons_succ]
  refine take_op 16 (v := ?rv16) rfl (by kernel_rfl) (fun _ _ _ h => h) (by rfl) hSH.out (fun w' hS' => ?ry16) ?rz16
  case ry16 =>
    go_simp
    rfl
  simp only [List.setIfInBounds_toArray, List.set_cons_zero, List.set_cons_succ]
  refine take_op 17 (v := ?rv17) rfl (by kernel_rfl) (fun _ _ _ h => h) (by rfl) hSH.out (fun w' hS' => ?ry17) ?rz17
  case ry17 =>
    have a0 := (k6.below hS' k6.lt).cell (i := 0) rfl
    have a1 := (k6.below hS' k6.lt).cell (i := 1) rfl
    have a2 := (k6.below hS' k6.lt).cell (i := 2) rfl
    have a3 := (k6.below hS' k6.lt).cell (i := 3) rfl
    have a4 := (k6.below hS' k6.lt).cell (i := 4) rfl
    have a5 := (k6.below hS' k6.lt).cell (i := 5) rfl
    have a6 := (k6.below hS' k6.lt).cell (i := 6) rfl
    go_simp
    rfl
  simp only [List.setIfInBounds_toArray, List.set_cons_zero, List.set_cons_succ]
  refine take_op 18 (v := ?rv18) rfl (by kernel_rfl) (fun _ _ _ h => h) (by rfl) hSH.out (fun w' hS' => ?ry18) ?rz18
  case ry18 =>
    go_simp
    try go_ints
    rfl
  simp only [List.setIfInBounds_toArray, List.set_cons_zero, List.set_cons_succ]
  refine take_op 20 (v := ?rv20) rfl (by kernel_rfl) (fun _ _ _ h => h) (by rfl) hSH.out (fun w' hS' => ?ry20) ?rz20
  case ry20 =>
    go_simp
    rfl
  simp only [List.setIfInBounds_toArray, List.set_cons_zero, List.set_cons_succ]
  refine take_op 21 (v := ?rv21) rfl (by kernel_rfl) (fun _ _ _ h => h) (by rfl) hSH.out (fun w' hS' => ?ry21) ?rz21
  case ry21 =>
    have a0 := (k6.below hS' k6.lt).cell (i := 0) rfl
    have a1 := (k6.below hS' k6.lt).cell (i := 1) rfl
    have a2 := (k6.below hS' k6.lt).cell (i := 2) rfl
    have a3 := (k6.below hS' k6.lt).cell (i := 3) rfl
    have a4 := (k6.below hS' k6.lt).cell (i := 4) rfl
    have a5 := (k6.below hS' k6.lt).cell (i := 5) rfl
    have a6 := (k6.below hS' k6.lt).cell (i := 6) rfl
    go_simp
    rfl
  simp only [List.setIfInBounds_toArray, List.set_cons_zero, List.set_cons_succ]
  refine take_op 22 (v := ?rv22) rfl (by kernel_rfl) (fun _ _ _ h => h) (by rfl) hSH.out (fun w' hS' => ?ry22) ?rz22
  case ry22 =>
    go_simp
    rfl
  simp only [List.setIfInBounds_toArray, List.set_cons_zero, List.set_cons_succ]
  refine take_op 23 (v := ?rv23) rfl (by kernel_rfl) (fun _ _ _ h => h) (by rfl) hSH.out (fun w' hS' => ?ry23) ?rz23
  case ry23 =>
    go_simp
    try go_ints
    rfl
  simp only [List.setIfInBounds_toArray, List.set_cons_zero, List.set_cons_succ]
  refine take_op 24 (v := ?rv24) rfl (by kernel_rfl) (fun _ _ _ h => h) (by rfl) hSH.out (fun w' hS' => ?ry24) ?rz24
  case ry24 =>
    go_simp
    rfl
  simp only [List.setIfInBounds_toArray, List.set_cons_zero, List.set_cons_succ]
  refine take_op 25 (v := ?rv25) rfl (by kernel_rfl) (fun _ _ _ h => h) (by rfl) hSH.out (fun w' hS' => ?ry25) ?rz25
  case ry25 =>
    have a0 := (k6.below hS' k6.lt).cell (i := 0) rfl
    have a1 := (k6.below hS' k6.lt).cell (i := 1) rfl
    have a2 := (k6.below hS' k6.lt).cell (i := 2) rfl
    have a3 := (k6.below hS' k6.lt).cell (i := 3) rfl
    have a4 := (k6.below hS' k6.lt).cell (i := 4) rfl
    have a5 := (k6.below hS' k6.lt).cell (i := 5) rfl
    have a6 := (k6.below hS' k6.lt).cell (i := 6) rfl
    go_simp
    rfl
  simp only [List.setIfInBounds_toArray, List.set_cons_zero, List.set_cons_succ]
  refine take_op 26 (v := ?rv26) rfl (by kernel_rfl) (fun _ _ _ h => h) (by rfl) hSH.out (fun w' hS' => ?ry26) ?rz26
  case ry26 =>
    go_simp
    rfl
  simp only [List.setIfInBounds_toArray, List.set_cons_zero, List.set_cons_succ]
  refine take_op 27 (v := ?rv27) rfl (by kernel_rfl) (fun _ _ _ h => h) (by rfl) hSH.out (fun w' hS' => ?ry27) ?rz27
  case ry27 =>
    go_simp
    try go_ints
    rfl
  simp only [List.setIfInBounds_toArray, List.set_cons_zero, List.set_cons_succ]
  refine take_op 28 (v := ?rv28) rfl (by kernel_rfl) (fun _ _ _ h => h) (by rfl) hSH.out (fun w' hS' => ?ry28) ?rz28
  case ry28 =>
    go_simp
    try go_ints
    rfl
  simp only [List.setIfInBounds_toArray, List.set_cons_zero, List.set_cons_succ]
  refine take_op 29 (v := ?rv29) rfl (by kernel_rfl) (fun _ _ _ h => h) (by rfl) hSH.out (fun w' hS' => ?ry29) ?rz29
  case ry29 =>
    go_simp
    rfl
  simp only [List.setIfInBounds_toArray, List.set_cons_zero, List.set_cons_succ]
  refine take_op 30 (v := ?rv30) rfl (by kernel_rfl) (fun _ _ _ h => h) (by rfl) hSH.out (fun w' hS' => ?ry30) ?rz30
  case ry30 =>
    have a0 := (k6.below hS' k6.lt).cell (i := 0) rfl
    have a1 := (k6.below hS' k6.lt).cell (i := 1) rfl
    have a2 := (k6.below hS' k6.lt).cell (i := 2) rfl
    have a3 := (k6.below hS' k6.lt).cell (i := 3) rfl
    have a4 := (k6.below hS' k6.lt).cell (i := 4) rfl
    have a5 := (k6.below hS' k6.lt).cell (i := 5) rfl
    have a6 := (k6.below hS' k6.lt).cell (i := 6) rfl
    go_simp
    rfl
  simp only [List.setIfInBounds_toArray, List.set_cons_zero, List.set_cons_succ]
  refine take_op 31 (v := ?rv31) rfl (by kernel_rfl) (fun _ _ _ h => h) (by rfl) hSH.out (fun w' hS' => ?ry31) ?rz31
  case ry31 =>
    go_simp
    try go_ints
    rfl
  simp only [List.setIfInBounds_toArray, List.set_cons_zero, List.set_cons_succ]
  refine take_op 32 (v := ?rv32) rfl (by kernel_rfl) (fun _ _ _ h => h) (by rfl) hSH.out (fun w' hS' => ?ry32) ?rz32
  case ry32 =>
    go_simp
    try go_ints
    rfl
  simp only [List.setIfInBounds_toArray, List.set_cons_zero, List.set_cons_succ]
  refine take_op 33 (v := ?rv33) rfl (by kernel_rfl) (fun _ _ _ h => h) (by rfl) hSH.out (fun w' hS' => ?ry33) ?rz33
  case ry33 =>
    go_simp
    rfl
  simp only [List.setIfInBounds_toArray, List.set_cons_zero, List.set_cons_succ]
  refine take_op 34 (v := ?rv34) rfl (by kernel_rfl) (fun _ _ _ h => h) (by rfl) hSH.out (fun w' hS' => ?ry34) ?rz34
  case ry34 =>
    have a0 := (k6.below hS' k6.lt).cell (i := 0) rfl
    have a1 := (k6.below hS' k6.lt).cell (i := 1) rfl
    have a2 := (k6.below hS' k6.lt).cell (i := 2) rfl
    have a3 := (k6.below hS' k6.lt).cell (i := 3) rfl
    have a4 := (k6.below hS' k6.lt).cell (i := 4) rfl
    have a5 := (k6.below hS' k6.lt).cell (i := 5) rfl
    have a6 := (k6.below hS' k6.lt).cell (i := 6) rfl
    go_simp
    rfl
  simp only [List.setIfInBounds_toArray, List.set_cons_zero, List.set_cons_succ]
  refine take_op 35 (v := ?rv35) rfl (by kernel_rfl) (fun _ _ _ h => h) (by rfl) hSH.out (fun w' hS' => ?ry35) ?rz35
  case ry35 =>
    go_simp
    try go_ints
    rfl
  simp only [List.setIfInBounds_toArray, List.set_cons_zero, List.set_cons_succ]
  refine take_op 36 (v := ?rv36) rfl (by kernel_rfl) (fun _ _ _ h => h) (by rfl) hSH.out (fun w' hS' => ?ry36) ?rz36
  case ry36 =>
    go_simp
    rfl
  simp only [List.setIfInBounds_toArray, List.set_cons_zero, List.set_cons_succ]
  refine take_op 37 (v := ?rv37) rfl (by kernel_rfl) (fun _ _ _ h => h) (by rfl) hSH.out (fun w' hS' => ?ry37) ?rz37
  case ry37 =>
    have a0 := (k6.below hS' k6.lt).cell (i := 0) rfl
    have a1 := (k6.below hS' k6.lt).cell (i := 1) rfl
    have a2 := (k6.below hS' k6.lt).cell (i := 2) rfl
    have a3 := (k6.below hS' k6.lt).cell (i := 3) rfl
    have a4 := (k6.below hS' k6.lt).cell (i := 4) rfl
    have a5 := (k6.below hS' k6.lt).cell (i := 5) rfl
    have a6 := (k6.below hS' k6.lt).cell (i := 6) rfl
    go_simp
    rfl
  simp only [List.setIfInBounds_toArray, List.set_cons_zero, List.set_cons_succ]
  refine take_op 38 (v := ?rv38) rfl (by kernel_rfl) (fun _ _ _ h => h) (by rfl) hSH.out (fun w' hS' => ?ry38) ?rz38
  case ry38 =>
    go_simp
    try go_ints
    rfl
  simp only [List.setIfInBounds_toArray, List.set_cons_zero, List.set_cons_succ]
  refine step_op 19 (by kernel_rfl) rfl (fun K hK => ?_)
  rw [if_pos (by rfl)]
  go_simp
  refine (down_any _ _ _ (by omega) (by omega) (by omega) (by omega)).mono ?_
  rintro e W1 ⟨rfl, rfl⟩
  refine hK.out _ _ (fun h => hSH.out) ?_
  clear hK K
  try simp only [Act.put, List.setIfInBounds_toArray, List.set_cons_zero, List.set_cons_succ]
  refine step_op 39 (by kernel_rfl) rfl (fun K hK => ?_)
  rw [if_pos (by rfl)]
  go_simp
  refine (down_any _ _ _ (by omega) (by omega) (by omega) (by omega)).mono ?_
  rintro e W1 ⟨rfl, rfl⟩
  refine hK.out _ _ (fun h => hSH.out) ?_
  clear hK K
  try simp only [Act.put, List.setIfInBounds_toArray, List.set_cons_zero, List.set_cons_succ]
  refine take_op 40 (v := ?rv40) rfl (by kernel_rfl) (fun _ _ _ h => h) (by rfl) hSH.out (fun w' hS' => ?ry40) ?rz40
  case ry40 =>
    go_simp
    rfl
  simp only [List.setIfInBounds_toArray, List.set_cons_zero, List.set_cons_succ]
  refine take_op 41 (v := ?rv41) rfl (by kernel_rfl) (fun _ _ _ h => h) (by rfl) hSH.out (fun w' hS' => ?ry41) ?rz41
  case ry41 =>
    go_simp
    rfl
  simp only [List.setIfInBounds_toArray, List.set_cons_zero, List.set_cons_succ]
  refine done_ops (by kernel_rfl) ?_
  go_wp2_with fail
  go_ret2
  exact ⟨rfl, ((Below.refl _ w).alloc (Nat.le_refl _) _).drew⟩

set_option maxHeartbeats 1000000 in
theorem ValidWarp_any (t : WarpN) (w : World) :
    Calls Try.prog 82 #[t.val] w fun e w' => e = .returned (.bool t.ok) ∧ Below w.heap.size w w' := by
  obtain ⟨l, hl⟩ : ∃ l, [t.a, t.b, t.c, t.d, t.e, t.f] = l := ⟨_, rfl⟩
  have hll : l.length = 6 := by rw [← hl]; rfl
  have hok : t.ok = (allIn (-65536) 65536 l && inR t.den 1 65536) := by rw [← hl]; simp [WarpN.ok, allIn, inR, Bool.and_assoc]
  have hrd : Rd (w.heap.size + 1 + 1) ((w.alloc (.cells t.cells 26)).alloc (.cells #[.int .i64 t.a, .int .i64 t.b, .int .i64 t.c, .int .i64 t.d, .int .i64 t.e, .int .i64 t.f] 3)) (some ⟨w.heap.size + 1, 0, none⟩) l := by
    refine .inr ⟨w.heap.size + 1, 0, rfl, by omega, fun i hi => ?_⟩
    have hk := Blk.new (w.alloc (.cells t.cells 26)) 3 #[.int .i64 t.a, .int .i64 t.b, .int .i64 t.c, .int .i64 t.d, .int .i64 t.e, .int .i64 t.f]
    simp only [World.size_alloc] at hk
    have : i = 0 ∨ i = 1 ∨ i = 2 ∨ i = 3 ∨ i = 4 ∨ i = 5 := by omega
    rw [← hl]
    rcases this with rfl | rfl | rfl | rfl | rfl | rfl <;> exact hk.cell rfl
  rcases hrd with h0 | ⟨b, o, hbo, hb2, hc⟩
  · exfalso; rw [h0] at hll; cases hll
  simp only [Option.some.injEq, Addr.mk.injEq, and_true] at hbo
  obtain ⟨rfl, rfl⟩ := hbo
  have hcH := Lib.hid hc
  have hokH := Lib.hid hok
  have hllH := Lib.hid hll
  clear hc hok hl hll
  go_enter Try.func82, Try.ntmps82
  go_wp2
  go_loop [4] (fun i => ∃ k : Nat, k ≤ 6 ∧ i = .int .i64 k ∧ allIn (-65536) 65536 (l.take k) = true) (fun i => 6 - (intOf i).toNat)
  case atStart => exact ⟨0, Nat.zero_le _, rfl, by simp [allIn]⟩
  case round =>
    obtain ⟨k, hk, rfl, hall⟩ := hrel
    by_cases hlt : k < 6
    · have hlt' : k < l.length := by rw [hllH.out]; exact hlt
      have hcell := hcH.out k hlt'
      rw [Nat.zero_add] at hcell
      obtain ⟨x, hx⟩ : ∃ x, l[k]?.getD 0 = x := ⟨_, rfl⟩
      rw [hx] at hcell
      have hs1H := Lib.hid (fun h : x < -65536 ∨ 65536 < x => allIn_false hlt' (by rw [hx]; exact h))
      have hs2H := Lib.hid (fun (h1 : -65536 ≤ x) (h2 : x ≤ 65536) => allIn_succ hlt' hall (by rw [hx]; exact h1) (by rw [hx]; exact h2))
      clear hx hlt'
      cases h4 : inR x (-65536) 65536 with
      | false =>
        have h4H := Lib.hid h4
        clear h4
        go_wp2_with fail
        refine (rwithin1 x _ _ false h4H.out _).mono ?_
        rintro e w' ⟨rfl, rfl⟩
        go_wp2_with fail
        go_ret
        exact ⟨ret_bool (by rw [hokH.out, hs1H.out (by have := h4H.out; simp [inR] at this; omega)]; rfl), below_al (below_al (Below.refl _ _) _) _⟩
      | true =>
        have h4H := Lib.hid h4
        clear h4
        go_wp2_with fail
        refine (rwithin1 x _ _ true h4H.out _).mono ?_
        rintro e w' ⟨rfl, rfl⟩
        go_wp2_with fail
        go_round
        case rel => exact ⟨k + 1, by omega, by go_num, hs2H.out (inR_true.1 h4H.out).1 (inR_true.1 h4H.out).2⟩
        case measure => simp [intOf]; omega
    · obtain ⟨v, hv⟩ : ∃ v, inR t.den 1 65536 = v := ⟨_, rfl⟩
      have hvH := Lib.hid hv
      have hallH := Lib.hid hall
      clear hv hall
      go_wp2_with fail
      refine (rwithin1 t.den _ _ v hvH.out _).mono ?_
      rintro e w' ⟨rfl, rfl⟩
      go_wp2_with fail
      go_ret
      exact ⟨ret_bool (by rw [hokH.out, hvH.out]; have := hallH.out; rw [List.take_of_length_le (by rw [hllH.out]; omega)] at this; rw [this]; rfl), below_al (below_al (Below.refl _ _) _) _⟩

/-- A list that is filled up to an index. -/
def upto (f : Nat → Int) (N k : Nat) : List Int := (List.range N).map fun i => if i < k then f i else 0

theorem row_base {W : World} {base base' : Nat} {e : TypeId} {size : Nat} {v : Value} {k : Nat} {xs : List Value} (h : W.ownsRow base e size v k xs) (hb : base' ≤ base) : W.ownsRow base' e size v k xs := by
  refine ⟨h.1, ?_⟩
  rcases h.2 with h3 | ⟨g, cap, cur, e1, e2, r⟩
  · exact .inl h3
  · exact .inr ⟨g, cap, cur, e1, by omega, r⟩

theorem upto_zero (f : Nat → Int) (N : Nat) : upto f N 0 = List.replicate N 0 := by
  refine List.ext_getElem (by simp [upto]) fun i h1 h2 => ?_
  simp [upto]

theorem upto_length (f : Nat → Int) (N k : Nat) : (upto f N k).length = N := by simp [upto]

theorem upto_set (f : Nat → Int) (N k : Nat) (hk : k < N) : (upto f N k).set k (f k) = upto f N (k + 1) := by
  refine List.ext_getElem (by simp [upto]) fun i h1 h2 => ?_
  rw [List.getElem_set]
  by_cases e : k = i
  · subst e; simp [upto]
  · rw [if_neg e]
    simp only [upto, List.getElem_map, List.getElem_range]
    by_cases h : i < k
    · rw [if_pos h, if_pos (by omega)]
    · rw [if_neg h, if_neg (by omega)]

theorem upto_all (f : Nat → Int) (N : Nat) : upto f N N = (List.range N).map f := by
  refine List.ext_getElem (by simp [upto]) fun i h1 h2 => ?_
  have hi : i < N := by simpa [upto] using h1
  simp [upto, hi]

theorem clamp_id {n : Int} (h : -2147483648 ≤ n) (h2 : n ≤ 2147483648) : clamp n (-2147483648) 2147483648 = n := by unfold clamp; omega

theorem img_plain {pw ph : Nat} {g : Int → Int → Int} (h : ∀ i, i < pw * ph → -2147483648 ≤ g (cX pw i) (cY pw i) ∧ g (cX pw i) (cY pw i) ≤ 2147483648) : (List.range (pw * ph)).map (fun i => g (cX pw i) (cY pw i)) = img pw ph g := by
  unfold img
  refine List.map_congr_left fun i hi => ?_
  obtain ⟨h1, h2⟩ := h i (List.mem_range.1 hi)
  exact (clamp_id h1 h2).symm

theorem px_bd {xs : List Int} (h : allIn (-2147483648) 2147483648 xs = true) (i : Int) : -2147483648 ≤ px xs i ∧ px xs i ≤ 2147483648 := by
  unfold px
  rcases Nat.lt_or_ge i.toNat xs.length with h1 | h1
  · rw [List.getElem?_eq_getElem h1]; exact allIn_mem h (List.getElem_mem h1)
  · rw [List.getElem?_eq_none h1]; decide

theorem cX_eq (pw i : Nat) : cX pw i = (i : Int) % (pw : Int) := rfl
theorem cY_eq (pw i : Nat) : cY pw i = (i : Int) / (pw : Int) := rfl
theorem cX_bd {pw i : Nat} (h : 1 ≤ pw) : 0 ≤ cX pw i ∧ cX pw i ≤ pw - 1 := by
  have := Nat.mod_lt i (show 0 < pw by omega)
  unfold cX; omega
theorem cY_bd {pw ph i : Nat} (h : i < pw * ph) : 0 ≤ cY pw i ∧ cY pw i ≤ ph - 1 := by
  have := Nat.div_lt_of_lt_mul h
  unfold cY
  generalize i / pw = q at *
  omega


set_option maxRecDepth 100000 in
set_option maxHeartbeats 2000000 in
theorem rTurn_any (iw ih : Int) (a : Option Addr) (c n : Nat) (xs : List Int) (hn : Hid (xs.length = n)) (w : World) (hm : n ≤ 9223372036854775807) (hr : Rd w.heap.size w a xs) :
    Calls Try.prog 29 #[imv iw ih a n c] w (RetIm w.heap.size (turnS iw ih xs) w) := by
  cases hv : vld iw ih xs with
  | false =>
    have hvH := Lib.hid hv
    clear hv
    go_enter Try.func29, Try.ntmps29
    go_wp2_with fail
    refine (Valid_any iw ih a c xs n hn _ hm ((hr.below (Nat.le_refl _) (((Below.refl _ _).alloc (Nat.le_refl _) _).alloc (by simp) _)).mono (by simp <;> omega))).mono ?_
    rintro e W1 ⟨rfl, hb1⟩
    rw [hvH.out]
    have k := (Blk.new (w.alloc (.cells #[.int .i64 iw, .int .i64 ih, .slice a n c] 24)) 24 #[.int .i64 0, .int .i64 0, .slice none 0 0]).below hb1 (by simp)
    simp only [World.size_alloc] at k
    have hB1 : Below w.heap.size w W1 := (((Below.refl _ _).alloc (Nat.le_refl _) _).alloc (by simp) _).trans (hb1.mono (by simp <;> omega))
    clear hb1
    have c0 := k.cell (i := 0) rfl
    have c1 := k.cell (i := 1) rfl
    have c2 := k.cell (i := 2) rfl
    have fc0 := k.frozen 0
    have fc1 := k.frozen 1
    have fc2 := k.frozen 2
    go_wp2_with fail
    have kf := put3_blk k (.int .i64 0) (.int .i64 0) (.slice none 0 0)
    have g0 := kf.cell (i := 0) rfl
    have g1 := kf.cell (i := 1) rfl
    have g2 := kf.cell (i := 2) rfl
    exact bodyPost_ret (v := .tuple #[.agg #[.int .i64 0, .int .i64 0, .slice none 0 0], .int .i64 20]) (by simp [results, Try.results29, go_sem, g0, g1, g2]) rfl ⟨⟨_, by simp only [turnS, hvH.out]; rfl, by simp only [turnS, hvH.out]; exact OwnIm_nil _ _⟩, hB1.trans (put3_below (by omega) _ _ _)⟩
  | true =>
    have hvH := Lib.hid hv
    obtain ⟨⟨i1, i2⟩, ⟨i3, i4⟩, hlen, hall⟩ := vld_true hv
    rw [hn.out] at hlen
    have hlenH := Lib.hid hlen
    have hallH := Lib.hid hall
    clear hv hlen hall
    obtain ⟨pw, rfl⟩ : ∃ pw : Nat, iw = (pw : Int) := ⟨iw.toNat, by omega⟩
    obtain ⟨ph, rfl⟩ : ∃ ph : Nat, ih = (ph : Int) := ⟨ih.toNat, by omega⟩
    have hN : ph * pw = n ∧ n ≤ 256 := by
      have h1 := hlenH.out
      obtain ⟨m1, m2⟩ := mul_small (a := (pw : Int)) (b := (ph : Int)) (m := 16) (n := 16) (by omega) (by omega) (by omega) (by omega)
      have h2 : ((pw * ph : Nat) : Int) = (pw : Int) * ph := by simp
      have h3 := Nat.mul_comm ph pw
      omega
    obtain ⟨hN1, hN2⟩ := hN
    have hN1H := Lib.hid hN1
    clear hN1
    go_enter Try.func29, Try.ntmps29
    go_wp2_with fail
    refine (Valid_any pw ph a c xs n hn _ hm ((hr.below (Nat.le_refl _) (((Below.refl _ _).alloc (Nat.le_refl _) _).alloc (by simp) _)).mono (by simp <;> omega))).mono ?_
    rintro e W1 ⟨rfl, hb1⟩
    rw [hvH.out]
    have hB1 : Below w.heap.size w W1 := (((Below.refl _ _).alloc (Nat.le_refl _) _).alloc (by simp) _).trans (hb1.mono (by simp <;> omega))
    have k5 := ((Blk.new w 24 #[.int .i64 pw, .int .i64 ph, .slice a n c]).alloc (.cells #[.int .i64 0, .int .i64 0, .slice none 0 0] 24)).below hb1 (by simp <;> omega)
    have k := (Blk.new (w.alloc (.cells #[.int .i64 pw, .int .i64 ph, .slice a n c] 24)) 24 #[.int .i64 0, .int .i64 0, .slice none 0 0]).below hb1 (by simp)
    simp only [World.size_alloc] at k
    clear hb1
    have hlt1 := k.lt
    have m0 := k5.cell (i := 0) rfl
    have m1 := k5.cell (i := 1) rfl
    have m2 := k5.cell (i := 2) rfl
    go_wp2_with fail
    refine (Blank_any ph pw (by omega) (by omega) W1).mono ?_
    rintro e W2 ⟨g, cap, rfl, hrow, hg, hb2⟩
    rw [hN1H.out] at hrow ⊢
    replace hrow := row_base hrow hB1.size
    replace hg := Nat.le_trans hB1.size hg
    replace k := k.below hb2 k.lt
    clear m0 m1 m2
    replace k5 := k5.below hb2 k5.lt
    have m0 := k5.cell (i := 0) rfl
    have m1 := k5.cell (i := 1) rfl
    have m2 := k5.cell (i := 2) rfl
    go_wp2_with fail
    have hB2 := hB1.trans (hb2.mono hB1.size)
    have ko := Blk.new W2 24 #[.int .i64 ph, .int .i64 pw, .slice (some ⟨g, 0, none⟩) n cap]
    have row3 := hrow.alloc (.cells #[.int .i64 ph, .int .i64 pw, .slice (some ⟨g, 0, none⟩) n cap] 24)
    obtain ⟨W3, hW3⟩ : ∃ W3, W2.alloc (.cells #[.int .i64 ph, .int .i64 pw, .slice (some ⟨g, 0, none⟩) n cap] 24) = W3 := ⟨_, rfl⟩
    have hb3 : Below W2.heap.size W2 W3 := alloc_below hW3
    rw [hW3] at ko row3 ⊢
    clear hW3
    have hB3 := hB2.trans (hb3.mono hB2.size)
    replace k := k.below hb3 k.lt
    clear m0 m1 m2
    replace k5 := k5.below hb3 k5.lt
    have m0 := k5.cell (i := 0) rfl
    have m1 := k5.cell (i := 1) rfl
    have m2 := k5.cell (i := 2) rfl
    obtain ⟨M, hM⟩ : ∃ M, W2.heap.size = M := ⟨_, rfl⟩
    rw [hM] at ko ⊢
    clear hb2 hb3 hrow hM hB1 hB2
    clear m0 m1 m2
    clear W2
    clear hlt1
    have row3' := row3
    rw [← upto_zero (fun i => turnG pw ph xs (cX ph i) (cY ph i)) n] at row3'
    clear row3
    have hgl := row3'.lt g rfl
    have ngo := ko.not_row (by decide) row3'
    have ng5 := k5.not_row (by decide) row3'
    have ngk := k.not_row (by decide) row3'
    have ngoH := Lib.hid ngo
    have ng5H := Lib.hid ng5
    have ngkH := Lib.hid ngk
    clear ngo ng5 ngk
    go_loopw [5] (fun i wr => ∃ k : Nat, k ≤ n ∧ i = .int .i64 k ∧ W3.grownBy wr (some g) ∧ wr.ownsRow w.heap.size 3 1 (.slice (some ⟨g, 0, none⟩) n cap) n ((upto (fun i => turnG pw ph xs (cX ph i) (cY ph i)) n k).map (Value.int .i64))) (fun i _ => n - (intOf i).toNat)
    case atStart => exact ⟨0, Nat.zero_le _, rfl, ⟨rfl, rfl, rfl, Nat.le_refl _, fun _ _ _ => rfl⟩, row3'⟩
    case round =>
      obtain ⟨k', hk, rfl, hG, rowk⟩ := hrel
      have k5r := k5.kept hG ng5H.out
      have kor := ko.kept hG ngoH.out
      have hS : Below wr.heap.size wr wr.drew := (Below.refl _ _).drew
      have hBr : Below w.heap.size w wr := hB3.grown hG hB3.size (fun j e => by cases e; exact hg)
      have o2 := kor.cell (i := 2) rfl
      have hpw0 : pw ≠ 0 := by omega
      have hph0 : ph ≠ 0 := by omega
      by_cases hlt : k' < n
      · obtain ⟨x1, x2⟩ := cX_bd (pw := ph) (i := k') (by omega)
        obtain ⟨y1, y2⟩ := cY_bd (pw := ph) (ph := pw) (i := k') (by rw [hN1H.out]; exact hlt)
        rw [cX_eq] at x1 x2
        rw [cY_eq] at y1 y2
        obtain ⟨q1, q2, q3, q4⟩ := in_idx (iw := pw) (ih := ph) (u := ((k' : Int) / (ph : Int))) (v := (ph : Int) - 1 - ((k' : Int) % (ph : Int))) i1 hlenH.out y1 y2 (by omega) (by omega)
        go_wp2_with fail
        refine plain_region (fun W' => Below wr.heap.size wr W') 18 19 (by kernel_rfl) rfl ?_
        simp only [Array.replicate_succ, Array.replicate_zero, List.push_toArray, List.nil_append, List.cons_append]
        refine take_op 0 (v := ?rv0) rfl (by kernel_rfl) (fun _ _ _ h => h) (by rfl) hS (fun w' hS' => ?ry0) ?rz0
        case ry0 =>
          go_simp
          rfl
        simp only [List.setIfInBounds_toArray, List.set_cons_zero, List.set_cons_succ]
        refine take_op 1 (v := ?rv1) rfl (by kernel_rfl) (fun _ _ _ h => h) (by rfl) hS (fun w' hS' => ?ry1) ?rz1
        case ry1 =>
          have a1 := (kor.below hS' kor.lt).cell (i := 2) rfl
          have a2 := (kor.below hS' kor.lt).cell (i := 0) rfl
          have b0 := (k5r.below hS' k5r.lt).cell (i := 0) rfl
          have b1 := (k5r.below hS' k5r.lt).cell (i := 1) rfl
          have b2 := (k5r.below hS' k5r.lt).cell (i := 2) rfl
          go_simp
          rfl
        simp only [List.setIfInBounds_toArray, List.set_cons_zero, List.set_cons_succ]
        refine take_op 2 (v := ?rv2) rfl (by kernel_rfl) (fun _ _ _ h => h) (by rfl) hS (fun w' hS' => ?ry2) ?rz2
        case ry2 =>
          go_simp
          rfl
        simp only [List.setIfInBounds_toArray, List.set_cons_zero, List.set_cons_succ]
        refine take_op 3 (v := ?rv3) rfl (by kernel_rfl) (fun _ _ _ h => h) (by rfl) hS (fun w' hS' => ?ry3) ?rz3
        case ry3 =>
          have a1 := (kor.below hS' kor.lt).cell (i := 2) rfl
          have a2 := (kor.below hS' kor.lt).cell (i := 0) rfl
          have b0 := (k5r.below hS' k5r.lt).cell (i := 0) rfl
          have b1 := (k5r.below hS' k5r.lt).cell (i := 1) rfl
          have b2 := (k5r.below hS' k5r.lt).cell (i := 2) rfl
          go_simp
          rfl
        simp only [List.setIfInBounds_toArray, List.set_cons_zero, List.set_cons_succ]
        refine take_op 4 (v := ?rv4) rfl (by kernel_rfl) (fun _ _ _ h => h) (by rfl) hS (fun w' hS' => ?ry4) ?rz4
        case ry4 =>
          go_simp
          rfl
        simp only [List.setIfInBounds_toArray, List.set_cons_zero, List.set_cons_succ]
        refine take_op 5 (v := ?rv5) rfl (by kernel_rfl) (fun _ _ _ h => h) (by rfl) hS (fun w' hS' => ?ry5) ?rz5
        case ry5 =>
          go_simp
          rfl
        simp only [List.setIfInBounds_toArray, List.set_cons_zero, List.set_cons_succ]
        refine take_op 6 (v := ?rv6) rfl (by kernel_rfl) (fun _ _ _ h => h) (by rfl) hS (fun w' hS' => ?ry6) ?rz6
        case ry6 =>
          have a1 := (kor.below hS' kor.lt).cell (i := 2) rfl
          have a2 := (kor.below hS' kor.lt).cell (i := 0) rfl
          have b0 := (k5r.below hS' k5r.lt).cell (i := 0) rfl
          have b1 := (k5r.below hS' k5r.lt).cell (i := 1) rfl
          have b2 := (k5r.below hS' k5r.lt).cell (i := 2) rfl
          go_simp
          rfl
        simp only [List.setIfInBounds_toArray, List.set_cons_zero, List.set_cons_succ]
        refine take_op 7 (v := ?rv7) rfl (by kernel_rfl) (fun _ _ _ h => h) (by rfl) hS (fun w' hS' => ?ry7) ?rz7
        case ry7 =>
          go_simp
          try go_ints
          rfl
        simp only [List.setIfInBounds_toArray, List.set_cons_zero, List.set_cons_succ]
        refine take_op 8 (v := ?rv8) rfl (by kernel_rfl) (fun _ _ _ h => h) (by rfl) hS (fun w' hS' => ?ry8) ?rz8
        case ry8 =>
          go_simp
          rfl
        simp only [List.setIfInBounds_toArray, List.set_cons_zero, List.set_cons_succ]
        refine take_op 9 (v := ?rv9) rfl (by kernel_rfl) (fun _ _ _ h => h) (by rfl) hS (fun w' hS' => ?ry9) ?rz9
        case ry9 =>
          have a1 := (kor.below hS' kor.lt).cell (i := 2) rfl
          have a2 := (kor.below hS' kor.lt).cell (i := 0) rfl
          have b0 := (k5r.below hS' k5r.lt).cell (i := 0) rfl
          have b1 := (k5r.below hS' k5r.lt).cell (i := 1) rfl
          have b2 := (k5r.below hS' k5r.lt).cell (i := 2) rfl
          go_simp
          rfl
        simp only [List.setIfInBounds_toArray, List.set_cons_zero, List.set_cons_succ]
        refine take_op 10 (v := ?rv10) rfl (by kernel_rfl) (fun _ _ _ h => h) (by rfl) hS (fun w' hS' => ?ry10) ?rz10
        case ry10 =>
          go_simp
          try go_ints
          rfl
        simp only [List.setIfInBounds_toArray, List.set_cons_zero, List.set_cons_succ]
        refine take_op 11 (v := ?rv11) rfl (by kernel_rfl) (fun _ _ _ h => h) (by rfl) hS (fun w' hS' => ?ry11) ?rz11
        case ry11 =>
          go_simp
          rfl
        simp only [List.setIfInBounds_toArray, List.set_cons_zero, List.set_cons_succ]
        refine take_op 12 (v := ?rv12) rfl (by kernel_rfl) (fun _ _ _ h => h) (by rfl) hS (fun w' hS' => ?ry12) ?rz12
        case ry12 =>
          go_simp
          rfl
        simp only [List.setIfInBounds_toArray, List.set_cons_zero, List.set_cons_succ]
        refine take_op 13 (v := ?rv13) rfl (by kernel_rfl) (fun _ _ _ h => h) (by rfl) hS (fun w' hS' => ?ry13) ?rz13
        case ry13 =>
          have a1 := (kor.below hS' kor.lt).cell (i := 2) rfl
          have a2 := (kor.below hS' kor.lt).cell (i := 0) rfl
          have b0 := (k5r.below hS' k5r.lt).cell (i := 0) rfl
          have b1 := (k5r.below hS' k5r.lt).cell (i := 1) rfl
          have b2 := (k5r.below hS' k5r.lt).cell (i := 2) rfl
          go_simp
          rfl
        simp only [List.setIfInBounds_toArray, List.set_cons_zero, List.set_cons_succ]
        refine take_op 14 (v := ?rv14) rfl (by kernel_rfl) (fun _ _ _ h => h) (by rfl) hS (fun w' hS' => ?ry14) ?rz14
        case ry14 =>
          go_simp
          try go_ints
          rfl
        simp only [List.setIfInBounds_toArray, List.set_cons_zero, List.set_cons_succ]
        refine take_op 15 (v := ?rv15) rfl (by kernel_rfl) (fun _ _ _ h => h) (by rfl) hS (fun w' hS' => ?ry15) ?rz15
        case ry15 =>
          go_simp
          try go_ints
          rfl
        simp only [List.setIfInBounds_toArray, List.set_cons_zero, List.set_cons_succ]
        refine step_op 16 (by kernel_rfl) rfl (fun K hK => ?_)
        rw [if_pos (by rfl)]
        go_simp
        refine (At_any pw ph (((k' : Int) / (ph : Int))) ((ph : Int) - 1 - ((k' : Int) % (ph : Int))) a c xs n hn _ (Int.le_trans (by decide) q1) (Int.le_trans (Int.le_of_lt q4) (by omega)) q2 q3 (by omega) ((hr.below (Nat.le_refl _) (hBr.trans (hS.mono hBr.size))).mono (Nat.le_trans hBr.size hS.size))).mono ?_
        rintro e W4 ⟨rfl, hb4⟩
        have hS4 : Below wr.heap.size wr W4 := hS.trans (hb4.mono hS.size)
        refine hK.out _ _ (fun h => hS4) ?_
        clear hK K
        try simp only [Act.put, List.setIfInBounds_toArray, List.set_cons_zero, List.set_cons_succ]
        have row4 := row_below rowk hS4
        have hcell := row4.cellAt k' (by omega)
        have hfr := row4.frozenAt k'
        have hcell2 : ((upto (fun i => turnG pw ph xs (cX ph i) (cY ph i)) n k').map (Value.int .i64))[k']? = some (.int .i64 0) := by simp [upto, hlt]
        rw [hcell2] at hcell
        clear hcell2
        refine take_op 17 (v := ?rv17) rfl (by kernel_rfl) (fun _ _ _ h => h) (by rfl) hS4 (fun w' hS' => ?ry17) ?rz17
        case ry17 =>
          go_simp
          try go_ints
          rfl
        simp only [List.setIfInBounds_toArray, List.set_cons_zero, List.set_cons_succ]
        refine step_op 18 (by kernel_rfl) rfl (fun K hK => ?_)
        rw [if_pos (by rfl)]
        go_simp
        refine hK.out _ _ (fun h => absurd h (by omega)) ?_
        clear hK K
        try simp only [Act.put, List.setIfInBounds_toArray, List.set_cons_zero, List.set_cons_succ]
        refine done_ops (by kernel_rfl) ?_
        go_wp2_with fail
        go_roundw
        case rel =>
          have hst := (row4.stored k' (.int .i64 (turnG pw ph xs (cX ph k') (cY ph k')))).1
          rw [map_set_int, upto_set (fun i => turnG pw ph xs (cX ph i) (cY ph i)) n k' hlt] at hst
          exact ⟨k' + 1, by omega, by go_num, grown_trans hG (grown_trans (grown_of_below hS4 _) (row4.stored k' (.int .i64 (turnG pw ph xs (cX ph k') (cY ph k')))).2), hst⟩
        case measure => simp [intOf]; omega
      · have hkn : n = k' := by omega
        subst hkn
        have kr := k.kept hG ngkH.out
        have o0 := kor.cell (i := 0) rfl
        have o1 := kor.cell (i := 1) rfl
        have c0 := kr.cell (i := 0) rfl
        have c1 := kr.cell (i := 1) rfl
        have c2 := kr.cell (i := 2) rfl
        have fc0 := kr.frozen 0
        have fc1 := kr.frozen 1
        have fc2 := kr.frozen 2
        go_wp2_with fail
        have kf := put3_blk kr (.int .i64 ph) (.int .i64 pw) (.slice (some ⟨g, 0, none⟩) n cap)
        have g0 := kf.cell (i := 0) rfl
        have g1 := kf.cell (i := 1) rfl
        have g2 := kf.cell (i := 2) rfl
        have hpx : (List.range n).map (fun i => turnG pw ph xs (cX ph i) (cY ph i)) = img ph pw (turnG pw ph xs) := by
          rw [← hN1H.out]
          exact img_plain fun i hi => px_bd hallH.out _
        rw [upto_all, hpx] at rowk
        have hlen2 : (img ph pw (turnG pw ph xs)).length = n := by rw [img_length]; exact hN1H.out
        exact bodyPost_ret (v := .tuple #[.agg #[.int .i64 ph, .int .i64 pw, .slice (some ⟨g, 0, none⟩) n cap], .int .i64 0]) (by simp [results, Try.results29, go_sem, g0, g1, g2]) rfl ⟨⟨_, by simp only [turnS, hvH.out]; rfl, by simp only [turnS, hvH.out]; exact ⟨_, rfl, row_len hlen2.symm (put3_row rowk (kr.not_row (by decide) rowk) _ _ _)⟩⟩, hBr.trans (put3_below (by omega) _ _ _)⟩

set_option maxRecDepth 100000 in
set_option maxHeartbeats 2000000 in
theorem rFlip_any (iw ih : Int) (a : Option Addr) (c n : Nat) (xs : List Int) (hn : Hid (xs.length = n)) (w : World) (hm : n ≤ 9223372036854775807) (hr : Rd w.heap.size w a xs) :
    Calls Try.prog 31 #[imv iw ih a n c] w (RetIm w.heap.size (flipS iw ih xs) w) := by
  cases hv : vld iw ih xs with
  | false =>
    have hvH := Lib.hid hv
    clear hv
    go_enter Try.func31, Try.ntmps31
    go_wp2_with fail
    refine (Valid_any iw ih a c xs n hn _ hm ((hr.below (Nat.le_refl _) (((Below.refl _ _).alloc (Nat.le_refl _) _).alloc (by simp) _)).mono (by simp <;> omega))).mono ?_
    rintro e W1 ⟨rfl, hb1⟩
    rw [hvH.out]
    have k := (Blk.new (w.alloc (.cells #[.int .i64 iw, .int .i64 ih, .slice a n c] 24)) 24 #[.int .i64 0, .int .i64 0, .slice none 0 0]).below hb1 (by simp)
    simp only [World.size_alloc] at k
    have hB1 : Below w.heap.size w W1 := (((Below.refl _ _).alloc (Nat.le_refl _) _).alloc (by simp) _).trans (hb1.mono (by simp <;> omega))
    clear hb1
    have c0 := k.cell (i := 0) rfl
    have c1 := k.cell (i := 1) rfl
    have c2 := k.cell (i := 2) rfl
    have fc0 := k.frozen 0
    have fc1 := k.frozen 1
    have fc2 := k.frozen 2
    go_wp2_with fail
    have kf := put3_blk k (.int .i64 0) (.int .i64 0) (.slice none 0 0)
    have g0 := kf.cell (i := 0) rfl
    have g1 := kf.cell (i := 1) rfl
    have g2 := kf.cell (i := 2) rfl
    exact bodyPost_ret (v := .tuple #[.agg #[.int .i64 0, .int .i64 0, .slice none 0 0], .int .i64 20]) (by simp [results, Try.results31, go_sem, g0, g1, g2]) rfl ⟨⟨_, by simp only [flipS, hvH.out]; rfl, by simp only [flipS, hvH.out]; exact OwnIm_nil _ _⟩, hB1.trans (put3_below (by omega) _ _ _)⟩
  | true =>
    have hvH := Lib.hid hv
    obtain ⟨⟨i1, i2⟩, ⟨i3, i4⟩, hlen, hall⟩ := vld_true hv
    rw [hn.out] at hlen
    have hlenH := Lib.hid hlen
    have hallH := Lib.hid hall
    clear hv hlen hall
    obtain ⟨pw, rfl⟩ : ∃ pw : Nat, iw = (pw : Int) := ⟨iw.toNat, by omega⟩
    obtain ⟨ph, rfl⟩ : ∃ ph : Nat, ih = (ph : Int) := ⟨ih.toNat, by omega⟩
    have hN : pw * ph = n ∧ n ≤ 256 := by
      have h1 := hlenH.out
      obtain ⟨m1, m2⟩ := mul_small (a := (pw : Int)) (b := (ph : Int)) (m := 16) (n := 16) (by omega) (by omega) (by omega) (by omega)
      have h2 : ((pw * ph : Nat) : Int) = (pw : Int) * ph := by simp
      have h3 := Nat.mul_comm ph pw
      omega
    obtain ⟨hN1, hN2⟩ := hN
    have hN1H := Lib.hid hN1
    clear hN1
    go_enter Try.func31, Try.ntmps31
    go_wp2_with fail
    refine (Valid_any pw ph a c xs n hn _ hm ((hr.below (Nat.le_refl _) (((Below.refl _ _).alloc (Nat.le_refl _) _).alloc (by simp) _)).mono (by simp <;> omega))).mono ?_
    rintro e W1 ⟨rfl, hb1⟩
    rw [hvH.out]
    have hB1 : Below w.heap.size w W1 := (((Below.refl _ _).alloc (Nat.le_refl _) _).alloc (by simp) _).trans (hb1.mono (by simp <;> omega))
    have k5 := ((Blk.new w 24 #[.int .i64 pw, .int .i64 ph, .slice a n c]).alloc (.cells #[.int .i64 0, .int .i64 0, .slice none 0 0] 24)).below hb1 (by simp <;> omega)
    have k := (Blk.new (w.alloc (.cells #[.int .i64 pw, .int .i64 ph, .slice a n c] 24)) 24 #[.int .i64 0, .int .i64 0, .slice none 0 0]).below hb1 (by simp)
    simp only [World.size_alloc] at k
    clear hb1
    have hlt1 := k.lt
    have m0 := k5.cell (i := 0) rfl
    have m1 := k5.cell (i := 1) rfl
    have m2 := k5.cell (i := 2) rfl
    go_wp2_with fail
    refine (Blank_any pw ph (by omega) (by omega) W1).mono ?_
    rintro e W2 ⟨g, cap, rfl, hrow, hg, hb2⟩
    rw [hN1H.out] at hrow ⊢
    replace hrow := row_base hrow hB1.size
    replace hg := Nat.le_trans hB1.size hg
    replace k := k.below hb2 k.lt
    clear m0 m1 m2
    replace k5 := k5.below hb2 k5.lt
    have m0 := k5.cell (i := 0) rfl
    have m1 := k5.cell (i := 1) rfl
    have m2 := k5.cell (i := 2) rfl
    go_wp2_with fail
    have hB2 := hB1.trans (hb2.mono hB1.size)
    have ko := Blk.new W2 24 #[.int .i64 pw, .int .i64 ph, .slice (some ⟨g, 0, none⟩) n cap]
    have row3 := hrow.alloc (.cells #[.int .i64 pw, .int .i64 ph, .slice (some ⟨g, 0, none⟩) n cap] 24)
    obtain ⟨W3, hW3⟩ : ∃ W3, W2.alloc (.cells #[.int .i64 pw, .int .i64 ph, .slice (some ⟨g, 0, none⟩) n cap] 24) = W3 := ⟨_, rfl⟩
    have hb3 : Below W2.heap.size W2 W3 := alloc_below hW3
    rw [hW3] at ko row3 ⊢
    clear hW3
    have hB3 := hB2.trans (hb3.mono hB2.size)
    replace k := k.below hb3 k.lt
    clear m0 m1 m2
    replace k5 := k5.below hb3 k5.lt
    have m0 := k5.cell (i := 0) rfl
    have m1 := k5.cell (i := 1) rfl
    have m2 := k5.cell (i := 2) rfl
    obtain ⟨M, hM⟩ : ∃ M, W2.heap.size = M := ⟨_, rfl⟩
    rw [hM] at ko ⊢
    clear hb2 hb3 hrow hM hB1 hB2
    clear m0 m1 m2
    clear W2
    clear hlt1
    have row3' := row3
    rw [← upto_zero (fun i => flipG pw xs (cX pw i) (cY pw i)) n] at row3'
    clear row3
    have hgl := row3'.lt g rfl
    have ngo := ko.not_row (by decide) row3'
    have ng5 := k5.not_row (by decide) row3'
    have ngk := k.not_row (by decide) row3'
    have ngoH := Lib.hid ngo
    have ng5H := Lib.hid ng5
    have ngkH := Lib.hid ngk
    clear ngo ng5 ngk
    go_loopw [5] (fun i wr => ∃ k : Nat, k ≤ n ∧ i = .int .i64 k ∧ W3.grownBy wr (some g) ∧ wr.ownsRow w.heap.size 3 1 (.slice (some ⟨g, 0, none⟩) n cap) n ((upto (fun i => flipG pw xs (cX pw i) (cY pw i)) n k).map (Value.int .i64))) (fun i _ => n - (intOf i).toNat)
    case atStart => exact ⟨0, Nat.zero_le _, rfl, ⟨rfl, rfl, rfl, Nat.le_refl _, fun _ _ _ => rfl⟩, row3'⟩
    case round =>
      obtain ⟨k', hk, rfl, hG, rowk⟩ := hrel
      have k5r := k5.kept hG ng5H.out
      have kor := ko.kept hG ngoH.out
      have hS : Below wr.heap.size wr wr.drew := (Below.refl _ _).drew
      have hBr : Below w.heap.size w wr := hB3.grown hG hB3.size (fun j e => by cases e; exact hg)
      have o2 := kor.cell (i := 2) rfl
      have p2 := k5r.cell (i := 2) rfl
      have hpw0 : pw ≠ 0 := by omega
      have hph0 : ph ≠ 0 := by omega
      by_cases hlt : k' < n
      · obtain ⟨x1, x2⟩ := cX_bd (pw := pw) (i := k') (by omega)
        obtain ⟨y1, y2⟩ := cY_bd (pw := pw) (ph := ph) (i := k') (by rw [hN1H.out]; exact hlt)
        rw [cX_eq] at x1 x2
        rw [cY_eq] at y1 y2
        obtain ⟨q1, q2, q3, q4⟩ := in_idx (iw := pw) (ih := ph) (u := (pw : Int) - 1 - ((k' : Int) % (pw : Int))) (v := ((k' : Int) / (pw : Int))) i1 hlenH.out (by omega) (by omega) y1 y2
        go_wp2_with fail
        refine plain_region (fun W' => Below wr.heap.size wr W') 18 19 (by kernel_rfl) rfl ?_
        simp only [Array.replicate_succ, Array.replicate_zero, List.push_toArray, List.nil_append, List.cons_append]
        refine take_op 0 (v := ?rv0) rfl (by kernel_rfl) (fun _ _ _ h => h) (by rfl) hS (fun w' hS' => ?ry0) ?rz0
        case ry0 =>
          go_simp
          rfl
        simp only [List.setIfInBounds_toArray, List.set_cons_zero, List.set_cons_succ]
        refine take_op 1 (v := ?rv1) rfl (by kernel_rfl) (fun _ _ _ h => h) (by rfl) hS (fun w' hS' => ?ry1) ?rz1
        case ry1 =>
          have a1 := (kor.below hS' kor.lt).cell (i := 2) rfl
          have a2 := (kor.below hS' kor.lt).cell (i := 0) rfl
          have b0 := (k5r.below hS' k5r.lt).cell (i := 0) rfl
          have b1 := (k5r.below hS' k5r.lt).cell (i := 1) rfl
          have b2 := (k5r.below hS' k5r.lt).cell (i := 2) rfl
          go_simp
          rfl
        simp only [List.setIfInBounds_toArray, List.set_cons_zero, List.set_cons_succ]
        refine take_op 2 (v := ?rv2) rfl (by kernel_rfl) (fun _ _ _ h => h) (by rfl) hS (fun w' hS' => ?ry2) ?rz2
        case ry2 =>
          go_simp
          rfl
        simp only [List.setIfInBounds_toArray, List.set_cons_zero, List.set_cons_succ]
        refine take_op 3 (v := ?rv3) rfl (by kernel_rfl) (fun _ _ _ h => h) (by rfl) hS (fun w' hS' => ?ry3) ?rz3
        case ry3 =>
          have a1 := (kor.below hS' kor.lt).cell (i := 2) rfl
          have a2 := (kor.below hS' kor.lt).cell (i := 0) rfl
          have b0 := (k5r.below hS' k5r.lt).cell (i := 0) rfl
          have b1 := (k5r.below hS' k5r.lt).cell (i := 1) rfl
          have b2 := (k5r.below hS' k5r.lt).cell (i := 2) rfl
          go_simp
          rfl
        simp only [List.setIfInBounds_toArray, List.set_cons_zero, List.set_cons_succ]
        refine take_op 4 (v := ?rv4) rfl (by kernel_rfl) (fun _ _ _ h => h) (by rfl) hS (fun w' hS' => ?ry4) ?rz4
        case ry4 =>
          go_simp
          rfl
        simp only [List.setIfInBounds_toArray, List.set_cons_zero, List.set_cons_succ]
        refine take_op 5 (v := ?rv5) rfl (by kernel_rfl) (fun _ _ _ h => h) (by rfl) hS (fun w' hS' => ?ry5) ?rz5
        case ry5 =>
          have a1 := (kor.below hS' kor.lt).cell (i := 2) rfl
          have a2 := (kor.below hS' kor.lt).cell (i := 0) rfl
          have b0 := (k5r.below hS' k5r.lt).cell (i := 0) rfl
          have b1 := (k5r.below hS' k5r.lt).cell (i := 1) rfl
          have b2 := (k5r.below hS' k5r.lt).cell (i := 2) rfl
          go_simp
          rfl
        simp only [List.setIfInBounds_toArray, List.set_cons_zero, List.set_cons_succ]
        refine take_op 6 (v := ?rv6) rfl (by kernel_rfl) (fun _ _ _ h => h) (by rfl) hS (fun w' hS' => ?ry6) ?rz6
        case ry6 =>
          go_simp
          try go_ints
          rfl
        simp only [List.setIfInBounds_toArray, List.set_cons_zero, List.set_cons_succ]
        refine take_op 7 (v := ?rv7) rfl (by kernel_rfl) (fun _ _ _ h => h) (by rfl) hS (fun w' hS' => ?ry7) ?rz7
        case ry7 =>
          go_simp
          rfl
        simp only [List.setIfInBounds_toArray, List.set_cons_zero, List.set_cons_succ]
        refine take_op 8 (v := ?rv8) rfl (by kernel_rfl) (fun _ _ _ h => h) (by rfl) hS (fun w' hS' => ?ry8) ?rz8
        case ry8 =>
          go_simp
          rfl
        simp only [List.setIfInBounds_toArray, List.set_cons_zero, List.set_cons_succ]
        refine take_op 9 (v := ?rv9) rfl (by kernel_rfl) (fun _ _ _ h => h) (by rfl) hS (fun w' hS' => ?ry9) ?rz9
        case ry9 =>
          have a1 := (kor.below hS' kor.lt).cell (i := 2) rfl
          have a2 := (kor.below hS' kor.lt).cell (i := 0) rfl
          have b0 := (k5r.below hS' k5r.lt).cell (i := 0) rfl
          have b1 := (k5r.below hS' k5r.lt).cell (i := 1) rfl
          have b2 := (k5r.below hS' k5r.lt).cell (i := 2) rfl
          go_simp
          rfl
        simp only [List.setIfInBounds_toArray, List.set_cons_zero, List.set_cons_succ]
        refine take_op 10 (v := ?rv10) rfl (by kernel_rfl) (fun _ _ _ h => h) (by rfl) hS (fun w' hS' => ?ry10) ?rz10
        case ry10 =>
          go_simp
          try go_ints
          rfl
        simp only [List.setIfInBounds_toArray, List.set_cons_zero, List.set_cons_succ]
        refine take_op 11 (v := ?rv11) rfl (by kernel_rfl) (fun _ _ _ h => h) (by rfl) hS (fun w' hS' => ?ry11) ?rz11
        case ry11 =>
          go_simp
          try go_ints
          rfl
        simp only [List.setIfInBounds_toArray, List.set_cons_zero, List.set_cons_succ]
        refine take_op 12 (v := ?rv12) rfl (by kernel_rfl) (fun _ _ _ h => h) (by rfl) hS (fun w' hS' => ?ry12) ?rz12
        case ry12 =>
          go_simp
          rfl
        simp only [List.setIfInBounds_toArray, List.set_cons_zero, List.set_cons_succ]
        refine take_op 13 (v := ?rv13) rfl (by kernel_rfl) (fun _ _ _ h => h) (by rfl) hS (fun w' hS' => ?ry13) ?rz13
        case ry13 =>
          go_simp
          rfl
        simp only [List.setIfInBounds_toArray, List.set_cons_zero, List.set_cons_succ]
        refine take_op 14 (v := ?rv14) rfl (by kernel_rfl) (fun _ _ _ h => h) (by rfl) hS (fun w' hS' => ?ry14) ?rz14
        case ry14 =>
          have a1 := (kor.below hS' kor.lt).cell (i := 2) rfl
          have a2 := (kor.below hS' kor.lt).cell (i := 0) rfl
          have b0 := (k5r.below hS' k5r.lt).cell (i := 0) rfl
          have b1 := (k5r.below hS' k5r.lt).cell (i := 1) rfl
          have b2 := (k5r.below hS' k5r.lt).cell (i := 2) rfl
          go_simp
          rfl
        simp only [List.setIfInBounds_toArray, List.set_cons_zero, List.set_cons_succ]
        refine take_op 15 (v := ?rv15) rfl (by kernel_rfl) (fun _ _ _ h => h) (by rfl) hS (fun w' hS' => ?ry15) ?rz15
        case ry15 =>
          go_simp
          try go_ints
          rfl
        simp only [List.setIfInBounds_toArray, List.set_cons_zero, List.set_cons_succ]
        refine step_op 16 (by kernel_rfl) rfl (fun K hK => ?_)
        rw [if_pos (by rfl)]
        go_simp
        refine (At_any pw ph ((pw : Int) - 1 - ((k' : Int) % (pw : Int))) (((k' : Int) / (pw : Int))) a c xs n hn _ (Int.le_trans (by decide) q1) (Int.le_trans (Int.le_of_lt q4) (by omega)) q2 q3 (by omega) ((hr.below (Nat.le_refl _) (hBr.trans (hS.mono hBr.size))).mono (Nat.le_trans hBr.size hS.size))).mono ?_
        rintro e W4 ⟨rfl, hb4⟩
        have hS4 : Below wr.heap.size wr W4 := hS.trans (hb4.mono hS.size)
        refine hK.out _ _ (fun h => hS4) ?_
        clear hK K
        try simp only [Act.put, List.setIfInBounds_toArray, List.set_cons_zero, List.set_cons_succ]
        have row4 := row_below rowk hS4
        have hcell := row4.cellAt k' (by omega)
        have hfr := row4.frozenAt k'
        have hcell2 : ((upto (fun i => flipG pw xs (cX pw i) (cY pw i)) n k').map (Value.int .i64))[k']? = some (.int .i64 0) := by simp [upto, hlt]
        rw [hcell2] at hcell
        clear hcell2
        refine take_op 17 (v := ?rv17) rfl (by kernel_rfl) (fun _ _ _ h => h) (by rfl) hS4 (fun w' hS' => ?ry17) ?rz17
        case ry17 =>
          go_simp
          try go_ints
          rfl
        simp only [List.setIfInBounds_toArray, List.set_cons_zero, List.set_cons_succ]
        refine step_op 18 (by kernel_rfl) rfl (fun K hK => ?_)
        rw [if_pos (by rfl)]
        go_simp
        refine hK.out _ _ (fun h => absurd h (by omega)) ?_
        clear hK K
        try simp only [Act.put, List.setIfInBounds_toArray, List.set_cons_zero, List.set_cons_succ]
        refine done_ops (by kernel_rfl) ?_
        go_wp2_with fail
        go_roundw
        case rel =>
          have hst := (row4.stored k' (.int .i64 (flipG pw xs (cX pw k') (cY pw k')))).1
          rw [map_set_int, upto_set (fun i => flipG pw xs (cX pw i) (cY pw i)) n k' hlt] at hst
          exact ⟨k' + 1, by omega, by go_num, grown_trans hG (grown_trans (grown_of_below hS4 _) (row4.stored k' (.int .i64 (flipG pw xs (cX pw k') (cY pw k')))).2), hst⟩
        case measure => simp [intOf]; omega
      · have hkn : n = k' := by omega
        subst hkn
        have kr := k.kept hG ngkH.out
        have o0 := kor.cell (i := 0) rfl
        have o1 := kor.cell (i := 1) rfl
        have c0 := kr.cell (i := 0) rfl
        have c1 := kr.cell (i := 1) rfl
        have c2 := kr.cell (i := 2) rfl
        have fc0 := kr.frozen 0
        have fc1 := kr.frozen 1
        have fc2 := kr.frozen 2
        go_wp2_with fail
        have kf := put3_blk kr (.int .i64 pw) (.int .i64 ph) (.slice (some ⟨g, 0, none⟩) n cap)
        have g0 := kf.cell (i := 0) rfl
        have g1 := kf.cell (i := 1) rfl
        have g2 := kf.cell (i := 2) rfl
        have hpx : (List.range n).map (fun i => flipG pw xs (cX pw i) (cY pw i)) = img pw ph (flipG pw xs) := by
          rw [← hN1H.out]
          exact img_plain fun i hi => px_bd hallH.out _
        rw [upto_all, hpx] at rowk
        have hlen2 : (img pw ph (flipG pw xs)).length = n := by rw [img_length]; exact hN1H.out
        exact bodyPost_ret (v := .tuple #[.agg #[.int .i64 pw, .int .i64 ph, .slice (some ⟨g, 0, none⟩) n cap], .int .i64 0]) (by simp [results, Try.results31, go_sem, g0, g1, g2]) rfl ⟨⟨_, by simp only [flipS, hvH.out]; rfl, by simp only [flipS, hvH.out]; exact ⟨_, rfl, row_len hlen2.symm (put3_row rowk (kr.not_row (by decide) rowk) _ _ _)⟩⟩, hBr.trans (put3_below (by omega) _ _ _)⟩

end Go.Proofs.Ytjglfeonoiljlaa
