/- The walk of the law PipeMeans: it returns true, and nothing that lay has turned. -/
import Derived.Test.YtekiemlniegddaaQA12
namespace Go.Proofs.Ytekiemlniegddaa
open Go Go.RowKit Go.Shelf
set_option linter.unusedVariables false
set_option linter.unusedSimpArgs false

set_option maxRecDepth 100000 in
set_option maxHeartbeats 8000000 in
theorem law_means (P : PipeN) (a : Option Addr) (n c : Nat) (hn : P.ss.length = n) (hP : PipeIn P) (ms : List PicN) (la : Option Addr) (q lc : Nat) (hm : ms.length = q) (hm40 : q * 40 ≤ 140737488355328) (hpl : ∀ i, (picAt ms i).px.length * 8 ≤ 140737488355328) (w : World) (hr : RdSs w.heap.size w a P.ss) (hrl : RdPs w.heap.size w la ms) :
    Calls Try.prog 3 #[pipev P a n c, .slice la q lc] w fun e w' => e = .returned (.bool true) ∧ Below w.heap.size w w' := by
  have hnH := Lib.hid hn
  have hPH := Lib.hid hP
  have hmH := Lib.hid hm
  have hplH := Lib.hid hpl
  have hpl2 : ∀ i, (picAt ms i).px.length ≤ 9223372036854775807 := fun i => by have := hpl i; omega
  have hpl2H := Lib.hid hpl2
  have hB : Below w.heap.size w w := Below.refl _ _
  clear hn hP hm hpl hpl2
  unfold pipev
  have hbV1 : Below w.heap.size w (w.alloc (.cells #[.int .i64 P.w, .int .i64 P.h, .int .i64 P.inp, .slice a n c] 24)) := jb_al (Below.refl _ w) _
  have kp := Blk.new w 24 #[.int .i64 P.w, .int .i64 P.h, .int .i64 P.inp, .slice a n c]
  obtain ⟨V1, hEV1⟩ : ∃ X, w.alloc (.cells #[.int .i64 P.w, .int .i64 P.h, .int .i64 P.inp, .slice a n c] 24) = X := ⟨_, rfl⟩
  rw [hEV1] at hbV1 kp
  replace hr := hr.later hbV1
  replace hrl := hrl.later hbV1
  replace hB := hB.trans (hbV1.mono hB.size)
  clear hbV1
  have m0 := kp.cell (i := 0) rfl
  have m1 := kp.cell (i := 1) rfl
  have m2 := kp.cell (i := 2) rfl
  have m3 := kp.cell (i := 3) rfl
  go_enter Try.func3, Try.ntmps3
  go_wp2_with fail
  clear hEV1
  have hc := twins_any ms la lc q hmH.out hm40 hplH.out V1 hrl
  refine hc.mono ?_
  clear hc
  rintro e V2 ⟨oa, oc, rfl, rdo, hb⟩
  clear m0 m1 m2 m3
  replace kp := kp.below hb kp.lt
  replace hr := hr.later hb
  replace hrl := hrl.later hb
  replace hB := hB.trans (hb.mono hB.size)
  clear hb
  have m0 := kp.cell (i := 0) rfl
  have m1 := kp.cell (i := 1) rfl
  have m2 := kp.cell (i := 2) rfl
  have m3 := kp.cell (i := 3) rfl
  obtain ⟨R, hR⟩ : ∃ R, meanS P ms = R := ⟨_, rfl⟩
  have hRH := Lib.hid hR
  clear hR
  have rdo0 := rdo
  have hrl0 := hrl
  have hBo : Below V2.heap.size V2 V2 := Below.refl _ _
  have hszo := hB.size
  have hsz1 := Nat.le_refl V2.heap.size
  go_wp2_with fail
  have hc := Mean_any P a n c hnH.out hPH.out ms oa q oc hmH.out (by omega) hpl2H.out V2 hr rdo
  rw [hRH.out] at hc
  refine hc.mono ?_
  clear hc
  rintro e V3 ⟨⟨vv, rfl, tt, rfl, hrowx⟩, hb⟩
  clear m0 m1 m2 m3
  replace kp := kp.below hb kp.lt
  replace hr := hr.later hb
  replace hrl := hrl.later hb
  replace rdo := rdo.later hb
  replace hBo := hBo.trans (hb.mono hBo.size)
  replace hB := hB.trans (hb.mono hB.size)
  clear hb
  have m0 := kp.cell (i := 0) rfl
  have m1 := kp.cell (i := 1) rfl
  have m2 := kp.cell (i := 2) rfl
  have m3 := kp.cell (i := 3) rfl
  obtain ⟨xa, xc, rfl⟩ := row_slice hrowx
  have hrx := hrowx
  obtain ⟨rw0, rh0, rpx, er⟩ := R
  simp only at hrowx hrx ⊢
  obtain ⟨xl, hxl⟩ : ∃ l, rpx.length = l := ⟨_, rfl⟩
  rw [hxl] at hrowx hrx ⊢
  have hxlH := Lib.hid hxl
  clear hxl
  clear hrx
  have kx := Blk.new V3 29 #[.int .i64 0, .int .i64 0, .slice none 0 0]
  obtain ⟨bkx, hxkx⟩ : ∃ b, V3.heap.size = b := ⟨_, rfl⟩
  obtain ⟨V3a, hAkx⟩ : ∃ X, V3.alloc (.cells #[.int .i64 0, .int .i64 0, .slice none 0 0] 29) = X := ⟨_, rfl⟩
  have hba : Below V3.heap.size V3 V3a := alloc_below hAkx
  rw [hAkx, hxkx] at kx
  have hlekx : V3.heap.size ≤ bkx := by omega
  have ykx0 := kx.cell (i := 0) rfl
  have fykx0 := kx.frozen 0
  have ykx1 := kx.cell (i := 1) rfl
  have fykx1 := kx.frozen 1
  have ykx2 := kx.cell (i := 2) rfl
  have fykx2 := kx.frozen 2
  have kxn := put3_blk kx (.int .i64 rw0) (.int .i64 rh0) (.slice xa xl xc)
  have hb : Below V3.heap.size V3 (put3 V3a bkx (.int .i64 rw0) (.int .i64 rh0) (.slice xa xl xc)) := hba.trans (put3_below hlekx (.int .i64 rw0) (.int .i64 rh0) (.slice xa xl xc))
  obtain ⟨V4, hPkx⟩ : ∃ X, put3 V3a bkx (.int .i64 rw0) (.int .i64 rh0) (.slice xa xl xc) = X := ⟨_, rfl⟩
  rw [hPkx] at kxn hb
  replace kx := kxn
  clear kxn hba hlekx
  clear m0 m1 m2 m3
  replace kp := kp.below hb kp.lt
  replace hr := hr.later hb
  replace hrl := hrl.later hb
  replace rdo := rdo.later hb
  replace hBo := hBo.trans (hb.mono hBo.size)
  replace hrowx := row_below hrowx hb
  replace hB := hB.trans (hb.mono hB.size)
  clear hb
  have m0 := kp.cell (i := 0) rfl
  have m1 := kp.cell (i := 1) rfl
  have m2 := kp.cell (i := 2) rfl
  have m3 := kp.cell (i := 3) rfl
  have x0 := kx.cell (i := 0) rfl
  have x1 := kx.cell (i := 1) rfl
  have x2 := kx.cell (i := 2) rfl
  go_wp2_with fail
  clear hAkx hxkx hPkx ykx0 ykx1 ykx2 fykx0 fykx1 fykx2
  have hc := rMean_any P a n c hnH.out hPH.out ms la q lc hmH.out (by omega) hpl2H.out V4 hr hrl
  rw [hRH.out] at hc
  refine hc.mono ?_
  clear hc
  rintro e V5 ⟨⟨vv, rfl, tt, rfl, hrowy⟩, hb⟩
  clear m0 m1 m2 m3 x0 x1 x2
  replace kp := kp.below hb kp.lt
  replace kx := kx.below hb kx.lt
  replace hr := hr.later hb
  replace hrl := hrl.later hb
  replace rdo := rdo.later hb
  replace hBo := hBo.trans (hb.mono hBo.size)
  replace hrowx := row_below hrowx hb
  replace hB := hB.trans (hb.mono hB.size)
  clear hb
  have m0 := kp.cell (i := 0) rfl
  have m1 := kp.cell (i := 1) rfl
  have m2 := kp.cell (i := 2) rfl
  have m3 := kp.cell (i := 3) rfl
  have x0 := kx.cell (i := 0) rfl
  have x1 := kx.cell (i := 1) rfl
  have x2 := kx.cell (i := 2) rfl
  obtain ⟨ya, yc, rfl⟩ := row_slice hrowy
  try simp only at hrowy ⊢
  rw [hxlH.out] at hrowy ⊢
  have ky := Blk.new V5 29 #[.int .i64 0, .int .i64 0, .slice none 0 0]
  obtain ⟨bky, hxky⟩ : ∃ b, V5.heap.size = b := ⟨_, rfl⟩
  obtain ⟨V5a, hAky⟩ : ∃ X, V5.alloc (.cells #[.int .i64 0, .int .i64 0, .slice none 0 0] 29) = X := ⟨_, rfl⟩
  have hba : Below V5.heap.size V5 V5a := alloc_below hAky
  rw [hAky, hxky] at ky
  have hleky : V5.heap.size ≤ bky := by omega
  have yky0 := ky.cell (i := 0) rfl
  have fyky0 := ky.frozen 0
  have yky1 := ky.cell (i := 1) rfl
  have fyky1 := ky.frozen 1
  have yky2 := ky.cell (i := 2) rfl
  have fyky2 := ky.frozen 2
  have kyn := put3_blk ky (.int .i64 rw0) (.int .i64 rh0) (.slice ya xl yc)
  have hb : Below V5.heap.size V5 (put3 V5a bky (.int .i64 rw0) (.int .i64 rh0) (.slice ya xl yc)) := hba.trans (put3_below hleky (.int .i64 rw0) (.int .i64 rh0) (.slice ya xl yc))
  obtain ⟨V6, hPky⟩ : ∃ X, put3 V5a bky (.int .i64 rw0) (.int .i64 rh0) (.slice ya xl yc) = X := ⟨_, rfl⟩
  rw [hPky] at kyn hb
  replace ky := kyn
  clear kyn hba hleky
  clear m0 m1 m2 m3 x0 x1 x2
  replace kp := kp.below hb kp.lt
  replace kx := kx.below hb kx.lt
  replace hr := hr.later hb
  replace hrl := hrl.later hb
  replace rdo := rdo.later hb
  replace hBo := hBo.trans (hb.mono hBo.size)
  replace hrowx := row_below hrowx hb
  replace hrowy := row_below hrowy hb
  replace hB := hB.trans (hb.mono hB.size)
  clear hb
  have m0 := kp.cell (i := 0) rfl
  have m1 := kp.cell (i := 1) rfl
  have m2 := kp.cell (i := 2) rfl
  have m3 := kp.cell (i := 3) rfl
  have x0 := kx.cell (i := 0) rfl
  have x1 := kx.cell (i := 1) rfl
  have x2 := kx.cell (i := 2) rfl
  have y0 := ky.cell (i := 0) rfl
  have y1 := ky.cell (i := 1) rfl
  have y2 := ky.cell (i := 2) rfl
  go_wp2_with fail
  clear hAky hxky hPky yky0 yky1 yky2 fyky0 fyky1 fyky2
  obtain ⟨v0, hv0⟩ : ∃ v, pipeB P = v := ⟨_, rfl⟩
  have hv0H := Lib.hid hv0
  clear hv0
  obtain ⟨ev, hev⟩ : ∃ e : Int, (if v0 = true then (0 : Int) else 30) = e := ⟨_, rfl⟩
  have hevH := Lib.hid hev
  clear hev
  have lx := kx.lt
  have ly := ky.lt
  have lp := kp.lt
  have hS : Below V6.heap.size V6 V6.drew := (Below.refl _ _).drew
  refine plain_region (fun W' => Below V6.heap.size V6 W') 16 16 (by kernel_rfl) rfl ?_
  simp only [Array.replicate_succ, Array.replicate_zero, List.push_toArray, List.nil_append, List.cons_append]
  obtain ⟨X0, hXX0⟩ : ∃ X : World, V6.drew = X := ⟨_, rfl⟩
  rw [hXX0] at hS ⊢
  clear hXX0
  refine take_op 0 (v := ?rv0) rfl (by kernel_rfl) (fun _ _ _ h => h) (by rfl) hS (fun w' hS' => ?ry0) ?rz0
  case ry0 =>
    have d0 := (kx.below hS' lx).cell (i := 0) rfl
    have g0 := (ky.below hS' ly).cell (i := 0) rfl
    have d1 := (kx.below hS' lx).cell (i := 1) rfl
    have g1 := (ky.below hS' ly).cell (i := 1) rfl
    have d2 := (kx.below hS' lx).cell (i := 2) rfl
    have g2 := (ky.below hS' ly).cell (i := 2) rfl
    have p0 := (kp.below hS' lp).cell (i := 0) rfl
    have p1 := (kp.below hS' lp).cell (i := 1) rfl
    have p2 := (kp.below hS' lp).cell (i := 2) rfl
    have p3 := (kp.below hS' lp).cell (i := 3) rfl
    clear hS'
    go_simp
    rfl
  simp only [List.setIfInBounds_toArray, List.set_cons_zero, List.set_cons_succ]
  refine take_op 1 (v := ?rv1) rfl (by kernel_rfl) (fun _ _ _ h => h) (by rfl) hS (fun w' hS' => ?ry1) ?rz1
  case ry1 =>
    have d0 := (kx.below hS' lx).cell (i := 0) rfl
    have g0 := (ky.below hS' ly).cell (i := 0) rfl
    have d1 := (kx.below hS' lx).cell (i := 1) rfl
    have g1 := (ky.below hS' ly).cell (i := 1) rfl
    have d2 := (kx.below hS' lx).cell (i := 2) rfl
    have g2 := (ky.below hS' ly).cell (i := 2) rfl
    have p0 := (kp.below hS' lp).cell (i := 0) rfl
    have p1 := (kp.below hS' lp).cell (i := 1) rfl
    have p2 := (kp.below hS' lp).cell (i := 2) rfl
    have p3 := (kp.below hS' lp).cell (i := 3) rfl
    clear hS'
    go_simp
    rfl
  simp only [List.setIfInBounds_toArray, List.set_cons_zero, List.set_cons_succ]
  refine step_op 2 (by kernel_rfl) rfl (fun K hK => ?_)
  rw [if_pos (by rfl)]
  go_simp
  refine (Same_eq rw0 rh0 xa ya xc yc xl rpx hxlH X0 (by have := row_maxP hrowx; omega) (later_i (row_rd' hxlH.out hrowx) hS) (later_i (row_rd' hxlH.out hrowy) hS)).mono ?_
  rintro e X1 ⟨rfl, hb⟩
  have hS1 : Below V6.heap.size V6 X1 := hS.trans (hb.mono hS.size)
  clear hb
  refine hK.out _ _ (fun h => hS1) ?_
  clear hK K
  try simp only [Act.put, List.setIfInBounds_toArray, List.set_cons_zero, List.set_cons_succ]
  refine take_op 3 (v := ?rv3) rfl (by kernel_rfl) (fun _ _ _ h => h) (by rfl) hS1 (fun w' hS' => ?ry3) ?rz3
  case ry3 =>
    go_simp
    try go_ints
    rfl
  simp only [List.setIfInBounds_toArray, List.set_cons_zero, List.set_cons_succ]
  refine take_op 4 (v := ?rv4) rfl (by kernel_rfl) (fun _ _ _ h => h) (by rfl) hS1 (fun w' hS' => ?ry4) ?rz4
  case ry4 =>
    go_simp
    rfl
  simp only [List.setIfInBounds_toArray, List.set_cons_zero, List.set_cons_succ]
  refine take_op 5 (v := ?rv5) rfl (by kernel_rfl) (fun _ _ _ h => h) (by rfl) hS1 (fun w' hS' => ?ry5) ?rz5
  case ry5 =>
    go_simp
    rfl
  simp only [List.setIfInBounds_toArray, List.set_cons_zero, List.set_cons_succ]
  refine take_op 6 (v := ?rv6) rfl (by kernel_rfl) (fun _ _ _ h => h) (by rfl) hS1 (fun w' hS' => ?ry6) ?rz6
  case ry6 =>
    go_simp
    rfl
  simp only [List.setIfInBounds_toArray, List.set_cons_zero, List.set_cons_succ]
  refine take_op 7 (v := ?rv7) rfl (by kernel_rfl) (fun _ _ _ h => h) (by rfl) hS1 (fun w' hS' => ?ry7) ?rz7
  case ry7 =>
    go_simp
    try go_ints
    rfl
  simp only [List.setIfInBounds_toArray, List.set_cons_zero, List.set_cons_succ]
  refine take_op 8 (v := ?rv8) rfl (by kernel_rfl) (fun _ _ _ h => h) (by rfl) hS1 (fun w' hS' => ?ry8) ?rz8
  case ry8 =>
    go_simp
    rfl
  simp only [List.setIfInBounds_toArray, List.set_cons_zero, List.set_cons_succ]
  refine take_op 9 (v := ?rv9) rfl (by kernel_rfl) (fun _ _ _ h => h) (by rfl) hS1 (fun w' hS' => ?ry9) ?rz9
  case ry9 =>
    go_simp
    rfl
  simp only [List.setIfInBounds_toArray, List.set_cons_zero, List.set_cons_succ]
  refine take_op 10 (v := ?rv10) rfl (by kernel_rfl) (fun _ _ _ h => h) (by rfl) hS1 (fun w' hS' => ?ry10) ?rz10
  case ry10 =>
    have d0 := (kx.below hS' lx).cell (i := 0) rfl
    have g0 := (ky.below hS' ly).cell (i := 0) rfl
    have d1 := (kx.below hS' lx).cell (i := 1) rfl
    have g1 := (ky.below hS' ly).cell (i := 1) rfl
    have d2 := (kx.below hS' lx).cell (i := 2) rfl
    have g2 := (ky.below hS' ly).cell (i := 2) rfl
    have p0 := (kp.below hS' lp).cell (i := 0) rfl
    have p1 := (kp.below hS' lp).cell (i := 1) rfl
    have p2 := (kp.below hS' lp).cell (i := 2) rfl
    have p3 := (kp.below hS' lp).cell (i := 3) rfl
    clear hS'
    go_simp
    rfl
  simp only [List.setIfInBounds_toArray, List.set_cons_zero, List.set_cons_succ]
  refine take_op 12 (v := ?rv12) rfl (by kernel_rfl) (fun _ _ _ h => h) (by rfl) hS1 (fun w' hS' => ?ry12) ?rz12
  case ry12 =>
    have d0 := (kx.below hS' lx).cell (i := 0) rfl
    have g0 := (ky.below hS' ly).cell (i := 0) rfl
    have d1 := (kx.below hS' lx).cell (i := 1) rfl
    have g1 := (ky.below hS' ly).cell (i := 1) rfl
    have d2 := (kx.below hS' lx).cell (i := 2) rfl
    have g2 := (ky.below hS' ly).cell (i := 2) rfl
    have p0 := (kp.below hS' lp).cell (i := 0) rfl
    have p1 := (kp.below hS' lp).cell (i := 1) rfl
    have p2 := (kp.below hS' lp).cell (i := 2) rfl
    have p3 := (kp.below hS' lp).cell (i := 3) rfl
    clear hS'
    go_simp
    rfl
  simp only [List.setIfInBounds_toArray, List.set_cons_zero, List.set_cons_succ]
  refine step_op 11 (by kernel_rfl) rfl (fun K hK => ?_)
  rw [if_pos (by rfl)]
  go_simp
  have hck := PCheck_any P a n c hnH.out hPH.out v0 hv0H.out X1 (hr.later hS1)
  rw [hevH.out] at hck
  refine hck.mono ?_
  clear hck
  rintro e X2 ⟨rfl, hb⟩
  have hS2 : Below V6.heap.size V6 X2 := hS1.trans (hb.mono hS1.size)
  clear hb
  refine hK.out _ _ (fun h => hS2) ?_
  clear hK K
  try simp only [Act.put, List.setIfInBounds_toArray, List.set_cons_zero, List.set_cons_succ]
  refine step_op 13 (by kernel_rfl) rfl (fun K hK => ?_)
  rw [if_pos (by rfl)]
  go_simp
  have hck := rPCheck_any P a n c hnH.out hPH.out v0 hv0H.out X2 (hr.later hS2)
  rw [hevH.out] at hck
  refine hck.mono ?_
  clear hck
  rintro e X3 ⟨rfl, hb⟩
  have hS3 : Below V6.heap.size V6 X3 := hS2.trans (hb.mono hS2.size)
  clear hb
  refine hK.out _ _ (fun h => hS3) ?_
  clear hK K
  try simp only [Act.put, List.setIfInBounds_toArray, List.set_cons_zero, List.set_cons_succ]
  refine take_op 14 (v := ?rv14) rfl (by kernel_rfl) (fun _ _ _ h => h) (by rfl) hS3 (fun w' hS' => ?ry14) ?rz14
  case ry14 =>
    go_simp
    try go_ints
    rfl
  simp only [List.setIfInBounds_toArray, List.set_cons_zero, List.set_cons_succ]
  refine take_op 15 (v := ?rv15) rfl (by kernel_rfl) (fun _ _ _ h => h) (by rfl) hS3 (fun w' hS' => ?ry15) ?rz15
  case ry15 =>
    go_simp
    rfl
  simp only [List.setIfInBounds_toArray, List.set_cons_zero, List.set_cons_succ]
  refine done_ops (by kernel_rfl) ?_
  clear hS hS1 hS2 lx ly lp
  clear m0 m1 m2 m3 x0 x1 x2 y0 y1 y2
  replace kp := kp.below hS3 kp.lt
  replace kx := kx.below hS3 kx.lt
  replace ky := ky.below hS3 ky.lt
  replace hr := hr.later hS3
  replace hrl := hrl.later hS3
  replace rdo := rdo.later hS3
  replace hBo := hBo.trans (hS3.mono hBo.size)
  replace hrowx := row_below hrowx hS3
  replace hrowy := row_below hrowy hS3
  replace hB := hB.trans (hS3.mono hB.size)
  clear hS3
  have x0 := kx.cell (i := 0) rfl
  have x1 := kx.cell (i := 1) rfl
  have x2 := kx.cell (i := 2) rfl
  have hlow := hrowx.lt
  have hxb := hrowx
  go_wp2_with fail
  have hsp := spoil3_any rw0 rh0 xa xc xl rpx V2.heap.size X3 (by have := row_maxP hrowx; omega) hBo.size (jrow_weaken hrowx (by omega))
  refine hsp.mono ?_
  clear hsp
  rintro e X4 ⟨⟨v, rfl⟩, hg⟩
  have hB4 : Below V2.heap.size V2 X4 := hBo.grown hg hBo.size (fun k e => by have := (hlow k e).1; omega)
  have rdoF := rdo0.later hB4
  have hrlF := hrl0.later hB4
  have hBF := hB.grown hg hB.size (fun k e => by have := (hlow k e).1; omega)
  clear hrowx hxb hrowy hlow hg kx ky kp hr hrl rdo hBo hB
  go_wp2_with fail
  refine (same3_any ms oa la oc lc q hmH.out (by omega) hpl2H.out X4 rdoF hrlF).mono ?_
  rintro e X5 ⟨rfl, hb⟩
  go_wp2_with fail
  go_ret
  exact ⟨rfl, hBF.trans (hb.mono hBF.size)⟩

end Go.Proofs.Ytekiemlniegddaa
