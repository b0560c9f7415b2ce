/- The walk of the law JudgeTests: it returns true, and nothing that lay has turned. -/
import Derived.Test.YtaejdgjfnoefjaaRt
namespace Go.Proofs.Ytaejdgjfnoefjaa
open Go Go.RowKit Go.Shelf
set_option linter.unusedVariables false
set_option linter.unusedSimpArgs false

set_option maxRecDepth 100000 in
set_option maxHeartbeats 4000000 in
theorem law_tests (p q num den h r : Int) (al hit : Bool) (hn : (Lit.int .i64 num).wf = true) (hd : (Lit.int .i64 den).wf = true) (w : World) :
    Calls Try.prog 4 #[tsv p q num den, drv h r al, .bool hit] w fun e w' => e = .returned (.bool true) ∧ Below w.heap.size w w' := by
  have k3 := (Blk.new w 35 #[.int .i64 p, .int .i64 q, .int .i64 num, .int .i64 den]).alloc (.cells #[.int .i64 h, .int .i64 r, .bool al] 37)
  have k4 := by simpa only [World.size_alloc] using Blk.new (w.alloc (.cells #[.int .i64 p, .int .i64 q, .int .i64 num, .int .i64 den] 35)) 37 #[.int .i64 h, .int .i64 r, .bool al]
  have hB := jwd_al (jwd_al (Below.refl _ w) (.cells #[.int .i64 p, .int .i64 q, .int .i64 num, .int .i64 den] 35)) (.cells #[.int .i64 h, .int .i64 r, .bool al] 37)
  obtain ⟨W1, hW1⟩ : ∃ W, (w.alloc (.cells #[.int .i64 p, .int .i64 q, .int .i64 num, .int .i64 den] 35)).alloc (.cells #[.int .i64 h, .int .i64 r, .bool al] 37) = W := ⟨_, rfl⟩
  rw [hW1] at k3 k4 hB
  have hWH := Lib.hid hW1
  obtain ⟨⟨⟨x1, x2, x3⟩, xe⟩, hx⟩ : ∃ x, takeS p q num den h r al hit = x := ⟨_, rfl⟩
  have ht1 := fun W => Take_any p q num den h r al hit hn hd W
  have ht2 := fun W => rTake_any p q num den h r al hit hn hd W
  rw [hx] at ht1 ht2
  obtain ⟨v, hv⟩ : ∃ v, testB p q num den = v := ⟨_, rfl⟩
  have hc1 := fun W => CheckTest_any p q num den hn hd v hv W
  have hc2 := fun W => rCheckTest_any p q num den hn hd v hv W
  obtain ⟨ve, hve⟩ : ∃ z : Int, (if v = true then 0 else 81) = z := ⟨_, rfl⟩
  rw [hve] at hc1 hc2
  have ht1H := Lib.hid ht1
  have ht2H := Lib.hid ht2
  have hc1H := Lib.hid hc1
  have hc2H := Lib.hid hc2
  have c30 := k3.cell (i := 0) rfl
  have c31 := k3.cell (i := 1) rfl
  have c32 := k3.cell (i := 2) rfl
  have c33 := k3.cell (i := 3) rfl
  have c40 := k4.cell (i := 0) rfl
  have c41 := k4.cell (i := 1) rfl
  have c42 := k4.cell (i := 2) rfl
  clear hW1 ht1 ht2 hc1 hc2 hx hv hve hn hd
  go_enter Try.func4, Try.ntmps4
  go_wp2_with fail
  rw [hWH.out]
  refine (ht1H.out _).mono ?_
  rintro e W2 ⟨rfl, hb2⟩
  have j3 := (k3.below hb2 k3.lt).alloc (.cells #[.int .i64 x1, .int .i64 x2, .bool x3] 37)
  have j4 := (k4.below hb2 k4.lt).alloc (.cells #[.int .i64 x1, .int .i64 x2, .bool x3] 37)
  have j7 := Blk.new W2 37 #[.int .i64 x1, .int .i64 x2, .bool x3]
  have hB2 := jwd_al (hB.trans (hb2.mono hB.size)) (.cells #[.int .i64 x1, .int .i64 x2, .bool x3] 37)
  obtain ⟨B7, hB7⟩ : ∃ B, W2.heap.size = B := ⟨_, rfl⟩
  obtain ⟨V2, hV2⟩ : ∃ V, W2.alloc (.cells #[.int .i64 x1, .int .i64 x2, .bool x3] 37) = V := ⟨_, rfl⟩
  rw [hV2] at j3 j4 j7 hB2
  rw [hB7] at j7
  have hB7H := Lib.hid hB7
  have hV2H := Lib.hid hV2
  clear c30 c31 c32 c33 c40 c41 c42 hb2 k3 k4 hB hB7 hV2
  have c30 := j3.cell (i := 0) rfl
  have c31 := j3.cell (i := 1) rfl
  have c32 := j3.cell (i := 2) rfl
  have c33 := j3.cell (i := 3) rfl
  have c40 := j4.cell (i := 0) rfl
  have c41 := j4.cell (i := 1) rfl
  have c42 := j4.cell (i := 2) rfl
  rw [← hV2H.out] at c30 c31 c32 c33 c40 c41 c42
  go_wp2_with fail
  rw [hV2H.out, hB7H.out]
  refine (ht2H.out _).mono ?_
  rintro e W3 ⟨rfl, hb3⟩
  have i3 := (j3.below hb3 j3.lt).alloc (.cells #[.int .i64 x1, .int .i64 x2, .bool x3] 37)
  have i7 := (j7.below hb3 j7.lt).alloc (.cells #[.int .i64 x1, .int .i64 x2, .bool x3] 37)
  have i9 := Blk.new W3 37 #[.int .i64 x1, .int .i64 x2, .bool x3]
  have hB3 := jwd_al (hB2.trans (hb3.mono hB2.size)) (.cells #[.int .i64 x1, .int .i64 x2, .bool x3] 37)
  obtain ⟨V3, hV3⟩ : ∃ V, W3.alloc (.cells #[.int .i64 x1, .int .i64 x2, .bool x3] 37) = V := ⟨_, rfl⟩
  obtain ⟨B9, hB9⟩ : ∃ B, W3.heap.size = B := ⟨_, rfl⟩
  rw [hV3] at i3 i7 i9 hB3
  rw [hB9] at i9
  have hV3H := Lib.hid hV3
  have hB9H := Lib.hid hB9
  clear c30 c31 c32 c33 c40 c41 c42 hb3 j3 j4 j7 hB2 hV3 hB9
  go_wp2_with fail
  rw [hV3H.out, hB9H.out]
  have hS := (Below.refl V3.heap.size V3).drew
  refine plain_region (fun W' => Below V3.heap.size V3 W') 21 21 (by kernel_rfl) rfl ?_
  simp only [Array.replicate_succ, Array.replicate_zero, List.push_toArray, List.nil_append, List.cons_append]
  refine take_op 0 (v := ?rv0) rfl (by kernel_rfl) (fun _ _ _ h => h) (by rfl) hS (fun w' hS' => ?ry0) ?rz0
  case ry0 =>
    have z30 := (i3.below hS' i3.lt).cell (i := 0) rfl
    have z31 := (i3.below hS' i3.lt).cell (i := 1) rfl
    have z32 := (i3.below hS' i3.lt).cell (i := 2) rfl
    have z33 := (i3.below hS' i3.lt).cell (i := 3) rfl
    have z70 := (i7.below hS' i7.lt).cell (i := 0) rfl
    have z71 := (i7.below hS' i7.lt).cell (i := 1) rfl
    have z72 := (i7.below hS' i7.lt).cell (i := 2) rfl
    have z90 := (i9.below hS' i9.lt).cell (i := 0) rfl
    have z91 := (i9.below hS' i9.lt).cell (i := 1) rfl
    have z92 := (i9.below hS' i9.lt).cell (i := 2) rfl
    clear hS'
    go_simp
    rfl
  simp only [List.setIfInBounds_toArray, List.set_cons_zero, List.set_cons_succ]
  refine take_op 1 (v := ?rv1) rfl (by kernel_rfl) (fun _ _ _ h => h) (by rfl) hS (fun w' hS' => ?ry1) ?rz1
  case ry1 =>
    have z30 := (i3.below hS' i3.lt).cell (i := 0) rfl
    have z31 := (i3.below hS' i3.lt).cell (i := 1) rfl
    have z32 := (i3.below hS' i3.lt).cell (i := 2) rfl
    have z33 := (i3.below hS' i3.lt).cell (i := 3) rfl
    have z70 := (i7.below hS' i7.lt).cell (i := 0) rfl
    have z71 := (i7.below hS' i7.lt).cell (i := 1) rfl
    have z72 := (i7.below hS' i7.lt).cell (i := 2) rfl
    have z90 := (i9.below hS' i9.lt).cell (i := 0) rfl
    have z91 := (i9.below hS' i9.lt).cell (i := 1) rfl
    have z92 := (i9.below hS' i9.lt).cell (i := 2) rfl
    clear hS'
    go_simp
    rfl
  simp only [List.setIfInBounds_toArray, List.set_cons_zero, List.set_cons_succ]
  refine take_op 2 (v := .bool true) rfl (by kernel_rfl) (fun _ _ _ h => h) (by rfl) hS (fun w' hS' => ?ry2) ?rz2
  case ry2 =>
    clear hS'
    go_simp
    first | done | rfl | (simp; done)
  simp only [List.setIfInBounds_toArray, List.set_cons_zero, List.set_cons_succ]
  refine take_op 3 (v := ?rv3) rfl (by kernel_rfl) (fun _ _ _ h => h) (by rfl) hS (fun w' hS' => ?ry3) ?rz3
  case ry3 =>
    go_simp
    rfl
  simp only [List.setIfInBounds_toArray, List.set_cons_zero, List.set_cons_succ]
  refine take_op 4 (v := ?rv4) rfl (by kernel_rfl) (fun _ _ _ h => h) (by rfl) hS (fun w' hS' => ?ry4) ?rz4
  case ry4 =>
    go_simp
    rfl
  simp only [List.setIfInBounds_toArray, List.set_cons_zero, List.set_cons_succ]
  refine take_op 5 (v := ?rv5) rfl (by kernel_rfl) (fun _ _ _ h => h) (by rfl) hS (fun w' hS' => ?ry5) ?rz5
  case ry5 =>
    go_simp
    rfl
  simp only [List.setIfInBounds_toArray, List.set_cons_zero, List.set_cons_succ]
  refine take_op 6 (v := .bool true) rfl (by kernel_rfl) (fun _ _ _ h => h) (by rfl) hS (fun w' hS' => ?ry6) ?rz6
  case ry6 =>
    clear hS'
    go_simp
    first | done | rfl | (simp; done)
  simp only [List.setIfInBounds_toArray, List.set_cons_zero, List.set_cons_succ]
  refine take_op 7 (v := ?rv7) rfl (by kernel_rfl) (fun _ _ _ h => h) (by rfl) hS (fun w' hS' => ?ry7) ?rz7
  case ry7 =>
    go_simp
    rfl
  simp only [List.setIfInBounds_toArray, List.set_cons_zero, List.set_cons_succ]
  refine take_op 8 (v := ?rv8) rfl (by kernel_rfl) (fun _ _ _ h => h) (by rfl) hS (fun w' hS' => ?ry8) ?rz8
  case ry8 =>
    go_simp
    rfl
  simp only [List.setIfInBounds_toArray, List.set_cons_zero, List.set_cons_succ]
  refine take_op 9 (v := ?rv9) rfl (by kernel_rfl) (fun _ _ _ h => h) (by rfl) hS (fun w' hS' => ?ry9) ?rz9
  case ry9 =>
    have z30 := (i3.below hS' i3.lt).cell (i := 0) rfl
    have z31 := (i3.below hS' i3.lt).cell (i := 1) rfl
    have z32 := (i3.below hS' i3.lt).cell (i := 2) rfl
    have z33 := (i3.below hS' i3.lt).cell (i := 3) rfl
    have z70 := (i7.below hS' i7.lt).cell (i := 0) rfl
    have z71 := (i7.below hS' i7.lt).cell (i := 1) rfl
    have z72 := (i7.below hS' i7.lt).cell (i := 2) rfl
    have z90 := (i9.below hS' i9.lt).cell (i := 0) rfl
    have z91 := (i9.below hS' i9.lt).cell (i := 1) rfl
    have z92 := (i9.below hS' i9.lt).cell (i := 2) rfl
    clear hS'
    go_simp
    rfl
  simp only [List.setIfInBounds_toArray, List.set_cons_zero, List.set_cons_succ]
  refine take_op 11 (v := ?rv11) rfl (by kernel_rfl) (fun _ _ _ h => h) (by rfl) hS (fun w' hS' => ?ry11) ?rz11
  case ry11 =>
    have z30 := (i3.below hS' i3.lt).cell (i := 0) rfl
    have z31 := (i3.below hS' i3.lt).cell (i := 1) rfl
    have z32 := (i3.below hS' i3.lt).cell (i := 2) rfl
    have z33 := (i3.below hS' i3.lt).cell (i := 3) rfl
    have z70 := (i7.below hS' i7.lt).cell (i := 0) rfl
    have z71 := (i7.below hS' i7.lt).cell (i := 1) rfl
    have z72 := (i7.below hS' i7.lt).cell (i := 2) rfl
    have z90 := (i9.below hS' i9.lt).cell (i := 0) rfl
    have z91 := (i9.below hS' i9.lt).cell (i := 1) rfl
    have z92 := (i9.below hS' i9.lt).cell (i := 2) rfl
    clear hS'
    go_simp
    rfl
  simp only [List.setIfInBounds_toArray, List.set_cons_zero, List.set_cons_succ]
  refine step_op 10 (by kernel_rfl) rfl (fun K hK => ?_)
  rw [if_pos (by rfl)]
  go_simp
  refine (hc1H.out _).mono ?_
  rintro e W4 ⟨rfl, hb4⟩
  have hS4 := hS.trans (hb4.mono hS.size)
  clear hb4
  refine hK.out _ _ (fun h => hS4) ?_
  clear hK K
  try simp only [Act.put, List.setIfInBounds_toArray, List.set_cons_zero, List.set_cons_succ]
  refine step_op 12 (by kernel_rfl) rfl (fun K hK => ?_)
  rw [if_pos (by rfl)]
  go_simp
  refine (hc2H.out _).mono ?_
  rintro e W5 ⟨rfl, hb5⟩
  have hS5 := hS4.trans (hb5.mono hS4.size)
  clear hb5
  refine hK.out _ _ (fun h => hS5) ?_
  clear hK K
  try simp only [Act.put, List.setIfInBounds_toArray, List.set_cons_zero, List.set_cons_succ]
  refine take_op 13 (v := .bool true) rfl (by kernel_rfl) (fun _ _ _ h => h) (by rfl) hS5 (fun w' hS' => ?ry13) ?rz13
  case ry13 =>
    clear hS'
    go_simp
    first | done | rfl | (simp; done)
  simp only [List.setIfInBounds_toArray, List.set_cons_zero, List.set_cons_succ]
  refine take_op 14 (v := ?rv14) rfl (by kernel_rfl) (fun _ _ _ h => h) (by rfl) hS5 (fun w' hS' => ?ry14) ?rz14
  case ry14 =>
    go_simp
    rfl
  simp only [List.setIfInBounds_toArray, List.set_cons_zero, List.set_cons_succ]
  refine take_op 15 (v := ?rv15) rfl (by kernel_rfl) (fun _ _ _ h => h) (by rfl) hS5 (fun w' hS' => ?ry15) ?rz15
  case ry15 =>
    go_simp
    rfl
  simp only [List.setIfInBounds_toArray, List.set_cons_zero, List.set_cons_succ]
  refine take_op 17 (v := ?rv17) rfl (by kernel_rfl) (fun _ _ _ h => h) (by rfl) hS5 (fun w' hS' => ?ry17) ?rz17
  case ry17 =>
    go_simp
    rfl
  simp only [List.setIfInBounds_toArray, List.set_cons_zero, List.set_cons_succ]
  refine step_op 16 (by kernel_rfl) rfl (fun K hK => ?_)
  rw [if_pos (by rfl)]
  go_simp
  refine (Start_any _).mono ?_
  rintro e W6 ⟨rfl, hb6⟩
  have hS6 := hS5.trans (hb6.mono hS5.size)
  clear hb6
  refine hK.out _ _ (fun h => hS6) ?_
  clear hK K
  try simp only [Act.put, List.setIfInBounds_toArray, List.set_cons_zero, List.set_cons_succ]
  refine take_op 18 (v := .bool true) rfl (by kernel_rfl) (fun _ _ _ h => h) (by rfl) hS6 (fun w' hS' => ?ry18) ?rz18
  case ry18 =>
    clear hS'
    go_simp
    first | done | rfl | (simp; done)
  simp only [List.setIfInBounds_toArray, List.set_cons_zero, List.set_cons_succ]
  refine take_op 19 (v := ?rv19) rfl (by kernel_rfl) (fun _ _ _ h => h) (by rfl) hS6 (fun w' hS' => ?ry19) ?rz19
  case ry19 =>
    go_simp
    rfl
  simp only [List.setIfInBounds_toArray, List.set_cons_zero, List.set_cons_succ]
  refine take_op 20 (v := ?rv20) rfl (by kernel_rfl) (fun _ _ _ h => h) (by rfl) hS6 (fun w' hS' => ?ry20) ?rz20
  case ry20 =>
    go_simp
    rfl
  simp only [List.setIfInBounds_toArray, List.set_cons_zero, List.set_cons_succ]
  refine done_ops (by kernel_rfl) ?_
  go_wp2_with fail
  go_ret
  exact ⟨rfl, hB3.trans (hS6.mono hB3.size)⟩

end Go.Proofs.Ytaejdgjfnoefjaa
