/- The walk of the law JudgeScores: it returns true, and nothing that lay has turned. -/
import Derived.Test.YtbfigbpjoaccdaaCl
import Derived.Test.YtbfigbpjoaccdaaImgE
namespace Go.Proofs.Ytbfigbpjoaccdaa
open Go Go.RowKit Go.Shelf
set_option linter.unusedVariables false
set_option linter.unusedSimpArgs false

set_option maxRecDepth 100000 in
set_option maxHeartbeats 8000000 in
theorem law_scores (N : NetN) (na : Option Addr) (nn nc : Nat) (hnn : N.Ls.length = nn) (hz : NetSz N) (m : ImN) (pa : Option Addr) (l pc : Nat) (hl : m.px.length = l) (hlm : l * 8 ≤ 140737488355328) (hnil : Hid (pa = none → l = 0 ∧ pc = 0))
    (w : World) (hrn : RdLs w.heap.size w na N.Ls) (hp : Rd w.heap.size w pa m.px) :
    Calls Try.prog 3 #[netv N na nn nc, imv m.w m.h pa l pc] w fun e w' => e = .returned (.bool true) ∧ Below w.heap.size w w' := by
  have hlH := Lib.hid hl
  have hbW1 : Below w.heap.size w (w.alloc (.cells #[.int .i64 N.w, .int .i64 N.h, .int .i64 N.gx, .int .i64 N.gy, .slice na nn nc, .int .i64 N.low, .int .i64 N.high] 24)) := jb_al (Below.refl _ w) _
  have kn := Blk.new w 24 #[.int .i64 N.w, .int .i64 N.h, .int .i64 N.gx, .int .i64 N.gy, .slice na nn nc, .int .i64 N.low, .int .i64 N.high]
  obtain ⟨W1, hEW1⟩ : ∃ X, w.alloc (.cells #[.int .i64 N.w, .int .i64 N.h, .int .i64 N.gx, .int .i64 N.gy, .slice na nn nc, .int .i64 N.low, .int .i64 N.high] 24) = X := ⟨_, rfl⟩
  rw [hEW1] at hbW1 kn
  have hbW2 : Below W1.heap.size W1 (W1.alloc (.cells #[.int .i64 m.w, .int .i64 m.h, .slice pa l pc] 27)) := jb_al (Below.refl _ W1) _
  have k1 := Blk.new W1 27 #[.int .i64 m.w, .int .i64 m.h, .slice pa l pc]
  obtain ⟨W2, hEW2⟩ : ∃ X, W1.alloc (.cells #[.int .i64 m.w, .int .i64 m.h, .slice pa l pc] 27) = X := ⟨_, rfl⟩
  rw [hEW2] at hbW2 k1
  have k0 := kn.below hbW2 kn.lt
  have hB2 : Below w.heap.size w W2 := hbW1.trans (hbW2.mono hbW1.size)
  have q0 : W2.cell? ⟨W1.heap.size, 0, none⟩ = some (.int .i64 m.w) := k1.cell (i := 0) rfl
  have q1 : W2.cell? ⟨W1.heap.size, 1, none⟩ = some (.int .i64 m.h) := k1.cell (i := 1) rfl
  have q2 : W2.cell? ⟨W1.heap.size, 2, none⟩ = some (.slice pa l pc) := k1.cell (i := 2) rfl
  have hTw := Twin_any m.w m.h pa pc l m.px hlH W2 hlm (later_i hp hB2) hnil
  have hTwH := Lib.hid hTw
  have hnetH := Lib.hid (fun (W : World) (hb : Below W2.heap.size W2 W) => later_l hrn (hB2.trans (hb.mono hB2.size)))
  have hpxH := Lib.hid (fun (W : World) (hb : Below W2.heap.size W2 W) => later_i hp (hB2.trans (hb.mono hB2.size)))
  have hzH := Lib.hid hz
  have hnnH := Lib.hid hnn
  clear hTw hrn hp hl hz hnn kn
  obtain ⟨vb, hvb⟩ : ∃ v, netOk N = v := ⟨_, rfl⟩
  obtain ⟨ve, hve⟩ : ∃ z : Int, (if vb = true then 0 else 80) = z := ⟨_, rfl⟩
  obtain ⟨ce, hce⟩ : ∃ z : Int, chkF N [m] = z := ⟨_, rfl⟩
  have hc1 := fun (W : World) (hb : Below W2.heap.size W2 W) => CheckNetwork_any N na nn nc hnnH.out hzH.out W (hnetH.out W hb) vb hvb
  have hc2 := fun (W : World) (hb : Below W2.heap.size W2 W) => rCheckNetwork_any N na nn nc hnnH.out hzH.out W (hnetH.out W hb) vb hvb
  rw [hve] at hc1 hc2
  have hc1H := Lib.hid hc1
  have hc2H := Lib.hid hc2
  have hceH := Lib.hid hce
  clear hc1 hc2 hvb hve hce
  have tok1 : True := trivial
  have tok2 : True := trivial
  have tok3 : True := trivial
  have tok4 : True := trivial
  have tok5 : True := trivial
  have tok6 : True := trivial
  go_enter Try.func3, Try.ntmps3
  go_wp2_with fail
  refine hTwH.out.mono ?_
  rintro e V1 ⟨v, rfl, ⟨sl, rfl, hrow⟩, hbV1⟩
  rw [hlH.out] at hrow
  obtain ⟨so, co, rfl⟩ := row_slice hrow
  have ro := rowI_rd hlH.out hrow
  have hbV2 : Below V1.heap.size V1 (V1.alloc (.cells #[.int .i64 m.w, .int .i64 m.h, .slice so l co] 27)) := jb_al (Below.refl _ V1) _
  have k2 := Blk.new V1 27 #[.int .i64 m.w, .int .i64 m.h, .slice so l co]
  obtain ⟨V2, hEV2⟩ : ∃ X, V1.alloc (.cells #[.int .i64 m.w, .int .i64 m.h, .slice so l co] 27) = X := ⟨_, rfl⟩
  rw [hEV2] at hbV2 k2
  have hb12 := hbV1.trans (hbV2.mono hbV1.size)
  replace k0 := k0.below hb12 (by have := hbW2.size; have := k0.lt; omega)
  replace k1 := k1.below hb12 k1.lt
  have roH := Lib.hid (fun (W : World) (hb : Below V2.heap.size V2 W) => later_i ro (hbV2.trans (hb.mono hbV2.size)))
  have hbX0 := hb12
  clear q0 q1 q2 hrow ro hTwH
  have p0 : V2.cell? ⟨w.heap.size, 0, none⟩ = some (.int .i64 N.w) := k0.cell (i := 0) rfl
  have p1 : V2.cell? ⟨w.heap.size, 1, none⟩ = some (.int .i64 N.h) := k0.cell (i := 1) rfl
  have p2 : V2.cell? ⟨w.heap.size, 2, none⟩ = some (.int .i64 N.gx) := k0.cell (i := 2) rfl
  have p3 : V2.cell? ⟨w.heap.size, 3, none⟩ = some (.int .i64 N.gy) := k0.cell (i := 3) rfl
  have p4 : V2.cell? ⟨w.heap.size, 4, none⟩ = some (.slice na nn nc) := k0.cell (i := 4) rfl
  have p5 : V2.cell? ⟨w.heap.size, 5, none⟩ = some (.int .i64 N.low) := k0.cell (i := 5) rfl
  have p6 : V2.cell? ⟨w.heap.size, 6, none⟩ = some (.int .i64 N.high) := k0.cell (i := 6) rfl
  have q0 : V2.cell? ⟨W1.heap.size, 0, none⟩ = some (.int .i64 m.w) := k1.cell (i := 0) rfl
  have q1 : V2.cell? ⟨W1.heap.size, 1, none⟩ = some (.int .i64 m.h) := k1.cell (i := 1) rfl
  have q2 : V2.cell? ⟨W1.heap.size, 2, none⟩ = some (.slice pa l pc) := k1.cell (i := 2) rfl
  have r0 : V2.cell? ⟨V1.heap.size, 0, none⟩ = some (.int .i64 m.w) := k2.cell (i := 0) rfl
  have r1 : V2.cell? ⟨V1.heap.size, 1, none⟩ = some (.int .i64 m.h) := k2.cell (i := 1) rfl
  have r2 : V2.cell? ⟨V1.heap.size, 2, none⟩ = some (.slice so l co) := k2.cell (i := 2) rfl
  go_wp2_with fail
  clear hEV2 hEW1 hEW2
  have hbV : Below V2.heap.size V2 V2 := Below.refl _ _
  refine (Features_any N na nn nc hnnH.out hzH.out m so l co hlH.out (by omega) V2 (hnetH.out V2 hbX0) (roH.out V2 (Below.refl _ _))).mono ?_
  rintro e X1 ⟨a1, n1, c1, x1, rfl, hn1, hrow1, hx1, hb1⟩
  rw [hceH.out]
  have hbX1 := hbX0.trans (hb1.mono hbX0.size)
  have hvX1 : Below V2.heap.size V2 X1 := hb1
  have rd1 := rowI_rd hn1 hrow1
  have rd1H := Lib.hid (fun (W : World) (hb : Below X1.heap.size X1 W) => later_i rd1 hb)
  clear p0 p1 p2 p3 p4 p5 p6 q0 q1 q2 r0 r1 r2
  replace k0 := k0.below hb1 k0.lt
  replace k1 := k1.below hb1 k1.lt
  replace k2 := k2.below hb1 k2.lt
  have p0 : X1.cell? ⟨w.heap.size, 0, none⟩ = some (.int .i64 N.w) := k0.cell (i := 0) rfl
  have p1 : X1.cell? ⟨w.heap.size, 1, none⟩ = some (.int .i64 N.h) := k0.cell (i := 1) rfl
  have p2 : X1.cell? ⟨w.heap.size, 2, none⟩ = some (.int .i64 N.gx) := k0.cell (i := 2) rfl
  have p3 : X1.cell? ⟨w.heap.size, 3, none⟩ = some (.int .i64 N.gy) := k0.cell (i := 3) rfl
  have p4 : X1.cell? ⟨w.heap.size, 4, none⟩ = some (.slice na nn nc) := k0.cell (i := 4) rfl
  have p5 : X1.cell? ⟨w.heap.size, 5, none⟩ = some (.int .i64 N.low) := k0.cell (i := 5) rfl
  have p6 : X1.cell? ⟨w.heap.size, 6, none⟩ = some (.int .i64 N.high) := k0.cell (i := 6) rfl
  have q0 : X1.cell? ⟨W1.heap.size, 0, none⟩ = some (.int .i64 m.w) := k1.cell (i := 0) rfl
  have q1 : X1.cell? ⟨W1.heap.size, 1, none⟩ = some (.int .i64 m.h) := k1.cell (i := 1) rfl
  have q2 : X1.cell? ⟨W1.heap.size, 2, none⟩ = some (.slice pa l pc) := k1.cell (i := 2) rfl
  have r0 : X1.cell? ⟨V1.heap.size, 0, none⟩ = some (.int .i64 m.w) := k2.cell (i := 0) rfl
  have r1 : X1.cell? ⟨V1.heap.size, 1, none⟩ = some (.int .i64 m.h) := k2.cell (i := 1) rfl
  have r2 : X1.cell? ⟨V1.heap.size, 2, none⟩ = some (.slice so l co) := k2.cell (i := 2) rfl
  clear hrow1 rd1 hb1
  go_wp2_with fail
  refine (rFeatures_any N na nn nc hnnH.out hzH.out m pa l pc hlH.out (by omega) X1 (hnetH.out X1 hbX1) (hpxH.out X1 hbX1)).mono ?_
  rintro e X2 ⟨a2, n2, c2, x2, rfl, hn2, hrow2, hx2, hb2⟩
  rw [hceH.out]
  have hbX2 := hbX1.trans (hb2.mono hbX1.size)
  have hvX2 : Below V2.heap.size V2 X2 := hvX1.trans (hb2.mono hvX1.size)
  have rd2 := rowI_rd hn2 hrow2
  have exx : x2 = x1 := by rw [hx1, hx2]
  rw [exx] at hn2 rd2
  have enn : n2 = n1 := by rw [← hn1, ← hn2]
  subst enn
  have rd1' := Lib.hid (rd1H.out X2 hb2)
  have rd2' := Lib.hid rd2
  have hnH := Lib.hid hn1
  clear p0 p1 p2 p3 p4 p5 p6 q0 q1 q2 r0 r1 r2
  replace k0 := k0.below hb2 k0.lt
  replace k1 := k1.below hb2 k1.lt
  replace k2 := k2.below hb2 k2.lt
  have p0 : X2.cell? ⟨w.heap.size, 0, none⟩ = some (.int .i64 N.w) := k0.cell (i := 0) rfl
  have p1 : X2.cell? ⟨w.heap.size, 1, none⟩ = some (.int .i64 N.h) := k0.cell (i := 1) rfl
  have p2 : X2.cell? ⟨w.heap.size, 2, none⟩ = some (.int .i64 N.gx) := k0.cell (i := 2) rfl
  have p3 : X2.cell? ⟨w.heap.size, 3, none⟩ = some (.int .i64 N.gy) := k0.cell (i := 3) rfl
  have p4 : X2.cell? ⟨w.heap.size, 4, none⟩ = some (.slice na nn nc) := k0.cell (i := 4) rfl
  have p5 : X2.cell? ⟨w.heap.size, 5, none⟩ = some (.int .i64 N.low) := k0.cell (i := 5) rfl
  have p6 : X2.cell? ⟨w.heap.size, 6, none⟩ = some (.int .i64 N.high) := k0.cell (i := 6) rfl
  have q0 : X2.cell? ⟨W1.heap.size, 0, none⟩ = some (.int .i64 m.w) := k1.cell (i := 0) rfl
  have q1 : X2.cell? ⟨W1.heap.size, 1, none⟩ = some (.int .i64 m.h) := k1.cell (i := 1) rfl
  have q2 : X2.cell? ⟨W1.heap.size, 2, none⟩ = some (.slice pa l pc) := k1.cell (i := 2) rfl
  have r0 : X2.cell? ⟨V1.heap.size, 0, none⟩ = some (.int .i64 m.w) := k2.cell (i := 0) rfl
  have r1 : X2.cell? ⟨V1.heap.size, 1, none⟩ = some (.int .i64 m.h) := k2.cell (i := 1) rfl
  have r2 : X2.cell? ⟨V1.heap.size, 2, none⟩ = some (.slice so l co) := k2.cell (i := 2) rfl
  have hbig : n2 ≤ 16 := by
    rw [← hn1, hx1]
    split
    · rename_i h; rw [featL_length]; exact (chkF_zero h).1.nf.2.1
    · simp
  clear hrow2 rd2 hb2 rd1H hn1 hn2 hx1 hx2 exx
  go_wp2_with fail
  have hS : Below X2.heap.size X2 X2.drew := (Below.refl _ _).drew
  refine plain_region (fun W' => Below X2.heap.size X2 W') 16 16 (by kernel_rfl) rfl ?_
  simp only [Array.replicate_succ, Array.replicate_zero, List.push_toArray, List.nil_append, List.cons_append]
  refine take_op 0 (v := ?rv0) rfl (by kernel_rfl) (fun _ _ _ h => h) (by rfl) hS (fun w' hS' => ?ry0) ?rz0
  case ry0 =>
    go_simp
    rfl
  simp only [List.setIfInBounds_toArray, List.set_cons_zero, List.set_cons_succ]
  refine take_op 1 (v := ?rv1) rfl (by kernel_rfl) (fun _ _ _ h => h) (by rfl) hS (fun w' hS' => ?ry1) ?rz1
  case ry1 =>
    go_simp
    rfl
  simp only [List.setIfInBounds_toArray, List.set_cons_zero, List.set_cons_succ]
  refine step_op 2 (by kernel_rfl) rfl (fun K hK => ?_)
  rw [if_pos (by rfl)]
  go_simp
  refine (SameInts_eq a1 a2 c1 c2 n2 x1 hnH X2.drew (by omega) rd1'.out rd2'.out).mono ?_
  rintro e W3 ⟨rfl, hb3⟩
  have hS3 := hS.trans (hb3.mono hS.size)
  clear hb3
  refine hK.out _ _ (fun h => hS3) ?_
  clear hK K
  try simp only [Act.put, List.setIfInBounds_toArray, List.set_cons_zero, List.set_cons_succ]
  refine take_op 3 (v := ?rv3) rfl (by kernel_rfl) (fun _ _ _ h => h) (by rfl) hS3 (fun w' hS' => ?ry3) ?rz3
  case ry3 =>
    go_simp
    try go_ints
    rfl
  simp only [List.setIfInBounds_toArray, List.set_cons_zero, List.set_cons_succ]
  refine take_op 4 (v := ?rv4) rfl (by kernel_rfl) (fun _ _ _ h => h) (by rfl) hS3 (fun w' hS' => ?ry4) ?rz4
  case ry4 =>
    go_simp
    rfl
  simp only [List.setIfInBounds_toArray, List.set_cons_zero, List.set_cons_succ]
  refine take_op 5 (v := ?rv5) rfl (by kernel_rfl) (fun _ _ _ h => h) (by rfl) hS3 (fun w' hS' => ?ry5) ?rz5
  case ry5 =>
    go_simp
    rfl
  simp only [List.setIfInBounds_toArray, List.set_cons_zero, List.set_cons_succ]
  refine take_op 6 (v := ?rv6) rfl (by kernel_rfl) (fun _ _ _ h => h) (by rfl) hS3 (fun w' hS' => ?ry6) ?rz6
  case ry6 =>
    go_simp
    rfl
  simp only [List.setIfInBounds_toArray, List.set_cons_zero, List.set_cons_succ]
  refine take_op 7 (v := .bool false) rfl (by kernel_rfl) (fun _ _ _ h => h) (by rfl) hS3 (fun w' hS' => ?ry7) ?rz7
  case ry7 =>
    clear hS'
    go_simp
    first | done | rfl | (simp; done)
  simp only [List.setIfInBounds_toArray, List.set_cons_zero, List.set_cons_succ]
  refine take_op 8 (v := ?rv8) rfl (by kernel_rfl) (fun _ _ _ h => h) (by rfl) hS3 (fun w' hS' => ?ry8) ?rz8
  case ry8 =>
    go_simp
    rfl
  simp only [List.setIfInBounds_toArray, List.set_cons_zero, List.set_cons_succ]
  refine take_op 9 (v := ?rv9) rfl (by kernel_rfl) (fun _ _ _ h => h) (by rfl) hS3 (fun w' hS' => ?ry9) ?rz9
  case ry9 =>
    go_simp
    rfl
  simp only [List.setIfInBounds_toArray, List.set_cons_zero, List.set_cons_succ]
  refine take_op 10 (v := ?rv10) rfl (by kernel_rfl) (fun _ _ _ h => h) (by rfl) hS3 (fun w' hS' => ?ry10) ?rz10
  case ry10 =>
    have z0 := (k0.below hS' k0.lt).cell (i := 0) rfl
    have z1 := (k0.below hS' k0.lt).cell (i := 1) rfl
    have z2 := (k0.below hS' k0.lt).cell (i := 2) rfl
    have z3 := (k0.below hS' k0.lt).cell (i := 3) rfl
    have z4 := (k0.below hS' k0.lt).cell (i := 4) rfl
    have z5 := (k0.below hS' k0.lt).cell (i := 5) rfl
    have z6 := (k0.below hS' k0.lt).cell (i := 6) rfl
    clear hS'
    go_simp
    rfl
  simp only [List.setIfInBounds_toArray, List.set_cons_zero, List.set_cons_succ]
  refine take_op 12 (v := ?rv12) rfl (by kernel_rfl) (fun _ _ _ h => h) (by rfl) hS3 (fun w' hS' => ?ry12) ?rz12
  case ry12 =>
    have z0 := (k0.below hS' k0.lt).cell (i := 0) rfl
    have z1 := (k0.below hS' k0.lt).cell (i := 1) rfl
    have z2 := (k0.below hS' k0.lt).cell (i := 2) rfl
    have z3 := (k0.below hS' k0.lt).cell (i := 3) rfl
    have z4 := (k0.below hS' k0.lt).cell (i := 4) rfl
    have z5 := (k0.below hS' k0.lt).cell (i := 5) rfl
    have z6 := (k0.below hS' k0.lt).cell (i := 6) rfl
    clear hS'
    go_simp
    rfl
  simp only [List.setIfInBounds_toArray, List.set_cons_zero, List.set_cons_succ]
  refine step_op 11 (by kernel_rfl) rfl (fun K hK => ?_)
  rw [if_pos (by rfl)]
  go_simp
  refine (hc1H.out _ (hbX2.trans (hS3.mono hbX2.size))).mono ?_
  rintro e W4 ⟨rfl, hb4⟩
  have hS4 := hS3.trans (hb4.mono hS3.size)
  clear hb4
  refine hK.out _ _ (fun h => hS4) ?_
  clear hK K
  try simp only [Act.put, List.setIfInBounds_toArray, List.set_cons_zero, List.set_cons_succ]
  refine step_op 13 (by kernel_rfl) rfl (fun K hK => ?_)
  rw [if_pos (by rfl)]
  go_simp
  refine (hc2H.out _ (hbX2.trans (hS4.mono hbX2.size))).mono ?_
  rintro e W5 ⟨rfl, hb5⟩
  have hS5 := hS4.trans (hb5.mono hS4.size)
  clear hb5
  refine hK.out _ _ (fun h => hS5) ?_
  clear hK K
  try simp only [Act.put, List.setIfInBounds_toArray, List.set_cons_zero, List.set_cons_succ]
  refine take_op 14 (v := .bool false) rfl (by kernel_rfl) (fun _ _ _ h => h) (by rfl) hS5 (fun w' hS' => ?ry14) ?rz14
  case ry14 =>
    clear hS'
    go_simp
    first | done | rfl | (simp; done)
  simp only [List.setIfInBounds_toArray, List.set_cons_zero, List.set_cons_succ]
  refine take_op 15 (v := ?rv15) rfl (by kernel_rfl) (fun _ _ _ h => h) (by rfl) hS5 (fun w' hS' => ?ry15) ?rz15
  case ry15 =>
    go_simp
    rfl
  simp only [List.setIfInBounds_toArray, List.set_cons_zero, List.set_cons_succ]
  refine done_ops (by kernel_rfl) ?_
  have hb4 := hS5
  have hbX3 := hbX2.trans (hb4.mono hbX2.size)
  have hvX3 : Below V2.heap.size V2 W5 := hvX2.trans (hb4.mono hvX2.size)
  clear p0 p1 p2 p3 p4 p5 p6 q0 q1 q2 r0 r1 r2
  replace k0 := k0.below hb4 k0.lt
  replace k1 := k1.below hb4 k1.lt
  replace k2 := k2.below hb4 k2.lt
  have p0 : W5.cell? ⟨w.heap.size, 0, none⟩ = some (.int .i64 N.w) := k0.cell (i := 0) rfl
  have p1 : W5.cell? ⟨w.heap.size, 1, none⟩ = some (.int .i64 N.h) := k0.cell (i := 1) rfl
  have p2 : W5.cell? ⟨w.heap.size, 2, none⟩ = some (.int .i64 N.gx) := k0.cell (i := 2) rfl
  have p3 : W5.cell? ⟨w.heap.size, 3, none⟩ = some (.int .i64 N.gy) := k0.cell (i := 3) rfl
  have p4 : W5.cell? ⟨w.heap.size, 4, none⟩ = some (.slice na nn nc) := k0.cell (i := 4) rfl
  have p5 : W5.cell? ⟨w.heap.size, 5, none⟩ = some (.int .i64 N.low) := k0.cell (i := 5) rfl
  have p6 : W5.cell? ⟨w.heap.size, 6, none⟩ = some (.int .i64 N.high) := k0.cell (i := 6) rfl
  have q0 : W5.cell? ⟨W1.heap.size, 0, none⟩ = some (.int .i64 m.w) := k1.cell (i := 0) rfl
  have q1 : W5.cell? ⟨W1.heap.size, 1, none⟩ = some (.int .i64 m.h) := k1.cell (i := 1) rfl
  have q2 : W5.cell? ⟨W1.heap.size, 2, none⟩ = some (.slice pa l pc) := k1.cell (i := 2) rfl
  have r0 : W5.cell? ⟨V1.heap.size, 0, none⟩ = some (.int .i64 m.w) := k2.cell (i := 0) rfl
  have r1 : W5.cell? ⟨V1.heap.size, 1, none⟩ = some (.int .i64 m.h) := k2.cell (i := 1) rfl
  have r2 : W5.cell? ⟨V1.heap.size, 2, none⟩ = some (.slice so l co) := k2.cell (i := 2) rfl
  clear hS hS3 hS4 hS5 hb4 rd1' rd2'
  go_wp2_with fail
  refine (Classify_any N na nn nc hnnH.out hzH.out m so l co hlH.out (by omega) W5 (hnetH.out W5 hbX3) (roH.out W5 hvX3)).mono ?_
  rintro e X4 ⟨s1, v1, rfl, hs1, hv1, hb5⟩
  have hs1H := Lib.hid hs1
  have hv1H := Lib.hid hv1
  clear hs1 hv1
  rw [hceH.out]
  have hbX4 := hbX3.trans (hb5.mono hbX3.size)
  have hvX4 : Below V2.heap.size V2 X4 := hvX3.trans (hb5.mono hvX3.size)
  clear p0 p1 p2 p3 p4 p5 p6 q0 q1 q2 r0 r1 r2
  replace k0 := k0.below hb5 k0.lt
  replace k1 := k1.below hb5 k1.lt
  replace k2 := k2.below hb5 k2.lt
  have p0 : X4.cell? ⟨w.heap.size, 0, none⟩ = some (.int .i64 N.w) := k0.cell (i := 0) rfl
  have p1 : X4.cell? ⟨w.heap.size, 1, none⟩ = some (.int .i64 N.h) := k0.cell (i := 1) rfl
  have p2 : X4.cell? ⟨w.heap.size, 2, none⟩ = some (.int .i64 N.gx) := k0.cell (i := 2) rfl
  have p3 : X4.cell? ⟨w.heap.size, 3, none⟩ = some (.int .i64 N.gy) := k0.cell (i := 3) rfl
  have p4 : X4.cell? ⟨w.heap.size, 4, none⟩ = some (.slice na nn nc) := k0.cell (i := 4) rfl
  have p5 : X4.cell? ⟨w.heap.size, 5, none⟩ = some (.int .i64 N.low) := k0.cell (i := 5) rfl
  have p6 : X4.cell? ⟨w.heap.size, 6, none⟩ = some (.int .i64 N.high) := k0.cell (i := 6) rfl
  have q0 : X4.cell? ⟨W1.heap.size, 0, none⟩ = some (.int .i64 m.w) := k1.cell (i := 0) rfl
  have q1 : X4.cell? ⟨W1.heap.size, 1, none⟩ = some (.int .i64 m.h) := k1.cell (i := 1) rfl
  have q2 : X4.cell? ⟨W1.heap.size, 2, none⟩ = some (.slice pa l pc) := k1.cell (i := 2) rfl
  have r0 : X4.cell? ⟨V1.heap.size, 0, none⟩ = some (.int .i64 m.w) := k2.cell (i := 0) rfl
  have r1 : X4.cell? ⟨V1.heap.size, 1, none⟩ = some (.int .i64 m.h) := k2.cell (i := 1) rfl
  have r2 : X4.cell? ⟨V1.heap.size, 2, none⟩ = some (.slice so l co) := k2.cell (i := 2) rfl
  clear hb5
  go_wp2_with fail
  refine (rClassify_any N na nn nc hnnH.out hzH.out m pa l pc hlH.out (by omega) X4 (hnetH.out X4 hbX4) (hpxH.out X4 hbX4)).mono ?_
  rintro e X5 ⟨s2, v2, rfl, hs2, hv2, hb6⟩
  rw [hceH.out]
  have e1 : s2 = s1 := by rw [hs2, hs1H.out]
  have e2 : v2 = v1 := by rw [hv2, hv1H.out]
  subst e1 e2
  have hbX5 := hbX4.trans (hb6.mono hbX4.size)
  have hvX5 : Below V2.heap.size V2 X5 := hvX4.trans (hb6.mono hvX4.size)
  clear p0 p1 p2 p3 p4 p5 p6 q0 q1 q2 r0 r1 r2
  replace k0 := k0.below hb6 k0.lt
  replace k1 := k1.below hb6 k1.lt
  replace k2 := k2.below hb6 k2.lt
  have p0 : X5.cell? ⟨w.heap.size, 0, none⟩ = some (.int .i64 N.w) := k0.cell (i := 0) rfl
  have p1 : X5.cell? ⟨w.heap.size, 1, none⟩ = some (.int .i64 N.h) := k0.cell (i := 1) rfl
  have p2 : X5.cell? ⟨w.heap.size, 2, none⟩ = some (.int .i64 N.gx) := k0.cell (i := 2) rfl
  have p3 : X5.cell? ⟨w.heap.size, 3, none⟩ = some (.int .i64 N.gy) := k0.cell (i := 3) rfl
  have p4 : X5.cell? ⟨w.heap.size, 4, none⟩ = some (.slice na nn nc) := k0.cell (i := 4) rfl
  have p5 : X5.cell? ⟨w.heap.size, 5, none⟩ = some (.int .i64 N.low) := k0.cell (i := 5) rfl
  have p6 : X5.cell? ⟨w.heap.size, 6, none⟩ = some (.int .i64 N.high) := k0.cell (i := 6) rfl
  have q0 : X5.cell? ⟨W1.heap.size, 0, none⟩ = some (.int .i64 m.w) := k1.cell (i := 0) rfl
  have q1 : X5.cell? ⟨W1.heap.size, 1, none⟩ = some (.int .i64 m.h) := k1.cell (i := 1) rfl
  have q2 : X5.cell? ⟨W1.heap.size, 2, none⟩ = some (.slice pa l pc) := k1.cell (i := 2) rfl
  have r0 : X5.cell? ⟨V1.heap.size, 0, none⟩ = some (.int .i64 m.w) := k2.cell (i := 0) rfl
  have r1 : X5.cell? ⟨V1.heap.size, 1, none⟩ = some (.int .i64 m.h) := k2.cell (i := 1) rfl
  have r2 : X5.cell? ⟨V1.heap.size, 2, none⟩ = some (.slice so l co) := k2.cell (i := 2) rfl
  clear hb6 hs1H hs2 hv1H hv2
  have t1 : (s2 == s2) = true := by simp
  have t2 : (v2 == v2) = true := by simp
  have t3 : (ce == ce) = true := by simp
  go_wp2_with fail
  refine (Same_eq m.w m.h so pa co pc l m.px hlH X5 (by omega) (roH.out X5 hvX5) (hpxH.out X5 hbX5)).mono ?_
  rintro e X6 ⟨rfl, hb7⟩
  go_wp2_with fail
  go_ret
  exact ⟨rfl, hB2.trans ((hbX5.trans (hb7.mono hbX5.size)).mono hB2.size)⟩

end Go.Proofs.Ytbfigbpjoaccdaa
