/- The law JudgeExamples: it returns true, and nothing that lay has turned. -/
import Derived.Test.YtbfigbpjoaccdaaGreatQC23
namespace Go.Proofs.YtbfigbpjoaccdaaGreat
open Go Go.RowKit Go.Shelf
set_option linter.unusedVariables false
set_option linter.unusedSimpArgs false

theorem th_ex2 : ThS [5, 7, 9] [2, 6] 10 100 5 10 0 where
  bad := fun h => absurd h (by decide)
  none := fun _ h => absurd h (by decide)
  some := fun _ _ => ⟨rfl, rfl, 9, ⟨by decide, by decide⟩, ⟨by decide, by decide⟩⟩
theorem th_ex3 : ThS [] [] 10 100 0 0 0 where
  bad := fun h => absurd h (by decide)
  none := fun _ _ => ⟨rfl, rfl, rfl⟩
  some := fun _ h => absurd rfl h
set_option maxRecDepth 100000 in
set_option maxHeartbeats 64000000 in
theorem law_examples (w : World) : Calls Tryz.prog 11 #[] w fun e w' => e = .returned (.bool true) ∧ Below w.heap.size w w' := by
  have hB : Below w.heap.size w w := Below.refl _ _
  go_enter Tryz.func11, Tryz.ntmps11
  go_wp2_with fail
  have hc := two_any w
  refine hc.mono ?_
  clear hc
  rintro e V1 ⟨na, nc, rfl, rn, hb⟩
  replace hB := hB.trans (hb.mono hB.size)
  clear hb
  have hbV2 : Below V1.heap.size V1 (V1.alloc (.cells #[.int .i64 200, .int .i64 185] 3)) := jb_al (Below.refl _ V1) _
  have kL := Blk.new V1 3 #[.int .i64 200, .int .i64 185]
  obtain ⟨V2, hEV2⟩ : ∃ X, V1.alloc (.cells #[.int .i64 200, .int .i64 185] 3) = X := ⟨_, rfl⟩
  rw [hEV2] at hbV2 kL
  replace rn := later_l rn hbV2
  replace hB := hB.trans (hbV2.mono hB.size)
  clear hbV2
  go_wp2_with fail
  clear hEV2
  have hc := row8_any (some ⟨V1.heap.size, 0, none⟩) 2 2 V2
  refine hc.mono ?_
  clear hc
  rintro e V3 ⟨rfl, hb⟩
  replace kL := kL.below hb kL.lt
  replace rn := later_l rn hb
  replace hB := hB.trans (hb.mono hB.size)
  clear hb
  go_wp2_with fail
  have hc := Features_any twoN na 2 nc rfl twoN_sz ⟨2, 1, [200, 185]⟩ (some ⟨V1.heap.size, 0, none⟩) 2 2 rfl (by decide) V3 rn (rd_litA kL rfl)
  unfold RetFea at hc
  rw [show chkF twoN [⟨2, 1, [200, 185]⟩] = 0 from by kernel_rfl] at hc
  refine hc.mono ?_
  clear hc
  rintro e V4 ⟨la, ln, lc, ls, rfl, hln, rowl, hls, hb⟩
  replace kL := kL.below hb kL.lt
  replace rn := later_l rn hb
  replace hB := hB.trans (hb.mono hB.size)
  clear hb
  rw [if_pos rfl, show featL twoN [200, 185] = [200, 185] from by kernel_rfl] at hls
  subst hls
  have hln2 : 2 = ln := hln
  subst hln2
  have rl := rowI_rd rfl rowl
  clear rowl hln
  clear kL
  clear rn
  go_wp2_with fail
  have hc := two_any V4
  refine hc.mono ?_
  clear hc
  rintro e V5 ⟨na, nc, rfl, rn, hb⟩
  replace rl := later_i rl hb
  replace hB := hB.trans (hb.mono hB.size)
  clear hb
  have hbV6 : Below V5.heap.size V5 (V5.alloc (.cells #[.int .i64 200, .int .i64 190] 3)) := jb_al (Below.refl _ V5) _
  have kL := Blk.new V5 3 #[.int .i64 200, .int .i64 190]
  obtain ⟨V6, hEV6⟩ : ∃ X, V5.alloc (.cells #[.int .i64 200, .int .i64 190] 3) = X := ⟨_, rfl⟩
  rw [hEV6] at hbV6 kL
  replace rl := later_i rl hbV6
  replace rn := later_l rn hbV6
  replace hB := hB.trans (hbV6.mono hB.size)
  clear hbV6
  go_wp2_with fail
  clear hEV6
  have hc := row8_any (some ⟨V5.heap.size, 0, none⟩) 2 2 V6
  refine hc.mono ?_
  clear hc
  rintro e V7 ⟨rfl, hb⟩
  replace kL := kL.below hb kL.lt
  replace rl := later_i rl hb
  replace rn := later_l rn hb
  replace hB := hB.trans (hb.mono hB.size)
  clear hb
  go_wp2_with fail
  have hc := Classify_any twoN na 2 nc rfl twoN_sz ⟨2, 1, [200, 190]⟩ (some ⟨V5.heap.size, 0, none⟩) 2 2 rfl (by decide) V7 rn (rd_litA kL rfl)
  unfold RetCla at hc
  rw [show chkF twoN [⟨2, 1, [200, 190]⟩] = 0 from by kernel_rfl] at hc
  refine hc.mono ?_
  clear hc
  rintro e V8 ⟨s1, v1, rfl, hs1, hv1, hb⟩
  replace kL := kL.below hb kL.lt
  replace rl := later_i rl hb
  replace rn := later_l rn hb
  replace hB := hB.trans (hb.mono hB.size)
  clear hb
  rw [if_pos rfl, show scoreN twoN.Ls (featL twoN [200, 190]) = 10 from by kernel_rfl] at hs1
  rw [if_pos rfl, show scoreN twoN.Ls (featL twoN [200, 190]) = 10 from by kernel_rfl, show verdB twoN.low twoN.high 10 10 = 2 from by kernel_rfl] at hv1
  simp only [Int.cast_ofNat_Int] at hv1
  subst hs1 hv1
  clear kL
  clear rn
  go_wp2_with fail
  have hc := two_any V8
  refine hc.mono ?_
  clear hc
  rintro e V9 ⟨na, nc, rfl, rn, hb⟩
  replace rl := later_i rl hb
  replace hB := hB.trans (hb.mono hB.size)
  clear hb
  have hbV10 : Below V9.heap.size V9 (V9.alloc (.cells #[.int .i64 0, .int .i64 255] 3)) := jb_al (Below.refl _ V9) _
  have kL := Blk.new V9 3 #[.int .i64 0, .int .i64 255]
  obtain ⟨V10, hEV10⟩ : ∃ X, V9.alloc (.cells #[.int .i64 0, .int .i64 255] 3) = X := ⟨_, rfl⟩
  rw [hEV10] at hbV10 kL
  replace rl := later_i rl hbV10
  replace rn := later_l rn hbV10
  replace hB := hB.trans (hbV10.mono hB.size)
  clear hbV10
  go_wp2_with fail
  clear hEV10
  have hc := row8_any (some ⟨V9.heap.size, 0, none⟩) 2 2 V10
  refine hc.mono ?_
  clear hc
  rintro e V11 ⟨rfl, hb⟩
  replace kL := kL.below hb kL.lt
  replace rl := later_i rl hb
  replace rn := later_l rn hb
  replace hB := hB.trans (hb.mono hB.size)
  clear hb
  go_wp2_with fail
  have hc := Classify_any twoN na 2 nc rfl twoN_sz ⟨2, 1, [0, 255]⟩ (some ⟨V9.heap.size, 0, none⟩) 2 2 rfl (by decide) V11 rn (rd_litA kL rfl)
  unfold RetCla at hc
  rw [show chkF twoN [⟨2, 1, [0, 255]⟩] = 0 from by kernel_rfl] at hc
  refine hc.mono ?_
  clear hc
  rintro e V12 ⟨s2, v2, rfl, hs1, hv1, hb⟩
  replace kL := kL.below hb kL.lt
  replace rl := later_i rl hb
  replace rn := later_l rn hb
  replace hB := hB.trans (hb.mono hB.size)
  clear hb
  rw [if_pos rfl, show scoreN twoN.Ls (featL twoN [0, 255]) = 255 from by kernel_rfl] at hs1
  rw [if_pos rfl, show scoreN twoN.Ls (featL twoN [0, 255]) = 255 from by kernel_rfl, show verdB twoN.low twoN.high 255 255 = 1 from by kernel_rfl] at hv1
  simp only [Int.cast_ofNat_Int] at hv1
  subst hs1 hv1
  clear kL
  clear rn
  have hbV13 : Below V12.heap.size V12 (V12.alloc (.cells #[.int .i64 100, .int .i64 50] 3)) := jb_al (Below.refl _ V12) _
  have kL := Blk.new V12 3 #[.int .i64 100, .int .i64 50]
  obtain ⟨V13, hEV13⟩ : ∃ X, V12.alloc (.cells #[.int .i64 100, .int .i64 50] 3) = X := ⟨_, rfl⟩
  rw [hEV13] at hbV13 kL
  replace rl := later_i rl hbV13
  replace hB := hB.trans (hbV13.mono hB.size)
  clear hbV13
  go_wp2_with fail
  clear hEV13
  have hc := row8_any (some ⟨V12.heap.size, 0, none⟩) 2 2 V13
  refine hc.mono ?_
  clear hc
  rintro e V14 ⟨rfl, hb⟩
  replace kL := kL.below hb kL.lt
  replace rl := later_i rl hb
  replace hB := hB.trans (hb.mono hB.size)
  clear hb
  go_wp2_with fail
  have hc := Spread_any 2 1 (some ⟨V12.heap.size, 0, none⟩) 2 2 [100, 50] (Lib.hid rfl) ⟨1, 100, 100, 0, 0⟩ V14 (by decide) (rd_litA kL rfl)
  rw [show sprS ⟨2, 1, [100, 50]⟩ ⟨1, 100, 100, 0, 0⟩ = ⟨2, 1, [50, 50], [100, 100], 0⟩ from by kernel_rfl] at hc
  refine hc.mono ?_
  clear hc
  rintro e V15 ⟨⟨v1, v2, rfl, ⟨t1, rfl, h1⟩, ⟨t2, rfl, h2⟩⟩, hb⟩
  replace kL := kL.below hb kL.lt
  replace rl := later_i rl hb
  replace hB := hB.trans (hb.mono hB.size)
  clear hb
  obtain ⟨pa, pc, rfl⟩ := row_slice h1
  obtain ⟨qa, qc, rfl⟩ := row_slice h2
  have rp := row_rd' rfl h1
  have rq := row_rd' rfl h2
  clear h1 h2
  simp only [List.length_cons, List.length_nil, Nat.reduceAdd]
  clear kL
  have kP := Blk.new V15 27 #[.int .i64 0, .int .i64 0, .slice none 0 0]
  obtain ⟨bkP, hx1⟩ : ∃ b, V15.heap.size = b := ⟨_, rfl⟩
  obtain ⟨V15a, hA⟩ : ∃ X, V15.alloc (.cells #[.int .i64 0, .int .i64 0, .slice none 0 0] 27) = X := ⟨_, rfl⟩
  have hba : Below V15.heap.size V15 V15a := alloc_below hA
  rw [hA, hx1] at kP
  have kQ := Blk.new V15a 27 #[.int .i64 0, .int .i64 0, .slice none 0 0]
  obtain ⟨bkQ, hx2⟩ : ∃ b, V15a.heap.size = b := ⟨_, rfl⟩
  obtain ⟨V15b, hA2⟩ : ∃ X, V15a.alloc (.cells #[.int .i64 0, .int .i64 0, .slice none 0 0] 27) = X := ⟨_, rfl⟩
  have hbb : Below V15a.heap.size V15a V15b := alloc_below hA2
  rw [hA2, hx2] at kQ
  have hlt12 : bkP < bkQ := hx2 ▸ kP.lt
  replace kP := kP.below hbb kP.lt
  have d0 := kP.cell (i := 0) rfl
  have fd0 := kP.frozen 0
  have d1 := kP.cell (i := 1) rfl
  have fd1 := kP.frozen 1
  have d2 := kP.cell (i := 2) rfl
  have fd2 := kP.frozen 2
  have hg1 := put3_grow2 V15b bkP (.int .i64 2) (.int .i64 1) (.slice pa 2 pc)
  have kPn := put3_blk kP (.int .i64 2) (.int .i64 1) (.slice pa 2 pc)
  replace kQ := kQ.kept hg1 (by simp; omega)
  obtain ⟨V15c, hA3⟩ : ∃ X, put3 V15b bkP (.int .i64 2) (.int .i64 1) (.slice pa 2 pc) = X := ⟨_, rfl⟩
  rw [hA3] at hg1 kPn kQ
  have e0 := kQ.cell (i := 0) rfl
  have fe0 := kQ.frozen 0
  have e1 := kQ.cell (i := 1) rfl
  have fe1 := kQ.frozen 1
  have e2 := kQ.cell (i := 2) rfl
  have fe2 := kQ.frozen 2
  have hg2 := put3_grow2 V15c bkQ (.int .i64 2) (.int .i64 1) (.slice qa 2 qc)
  have kQn := put3_blk kQ (.int .i64 2) (.int .i64 1) (.slice qa 2 qc)
  replace kP := kPn.kept hg2 (by simp; omega)
  obtain ⟨V16, hA4⟩ : ∃ X, put3 V15c bkQ (.int .i64 2) (.int .i64 1) (.slice qa 2 qc) = X := ⟨_, rfl⟩
  rw [hA4] at hg2 kP kQn
  replace kQ := kQn
  clear kPn kQn
  have hb : Below V15.heap.size V15 V16 := hba.trans ((hbb.mono hba.size).trans ((grown_below2 hg1 (by have := hba.size; have := hbb.size; omega) (by intro k e; cases e; omega)).trans (grown_below2 hg2 (by have := hba.size; have := hbb.size; have := hg1.size; omega) (by intro k e; cases e; omega))))
  replace rl := later_i rl hb
  replace rp := later_i rp hb
  replace rq := later_i rq hb
  replace hB := hB.trans (hb.mono hB.size)
  clear hb hba hbb hg1 hg2 hlt12
  go_wp2_with fail
  clear hA hA2 hA3 hA4 hx1 hx2 d0 d1 d2 fd0 fd1 fd2 e0 e1 e2 fe0 fe1 fe2
  have hS : Below V16.heap.size V16 V16.drew := (Below.refl _ _).drew
  refine plain_region (fun W' => Below V16.heap.size V16 W') 56 56 (by kernel_rfl) rfl ?_
  simp only [Array.replicate_succ, Array.replicate_zero, List.push_toArray, List.nil_append, List.cons_append]
  obtain ⟨X0, hX0⟩ : ∃ X, V16.drew = X := ⟨_, rfl⟩
  rw [hX0] at hS ⊢
  clear hX0
  refine take_op 0 (v := .bool false) rfl (by kernel_rfl) (fun _ _ _ h => h) (by rfl) hS (fun w' hS' => ?ry0) ?rz0
  case ry0 =>
    clear hS'
    go_simp
    first | done | rfl | (simp; done)
  simp only [List.setIfInBounds_toArray, List.set_cons_zero, List.set_cons_succ]
  refine step_op 1 (by kernel_rfl) rfl (fun K hK => ?_)
  rw [if_pos (by rfl)]
  go_simp
  refine (alive8_any X0).mono ?_
  rintro e X1 ⟨rfl, hb⟩
  have hS1 : Below V16.heap.size V16 X1 := hS.trans (hb.mono hS.size)
  clear hb
  refine hK.out _ _ (fun h => hS1) ?_
  clear hK K
  try simp only [Act.put, List.setIfInBounds_toArray, List.set_cons_zero, List.set_cons_succ]
  refine take_op 2 (v := .bool false) rfl (by kernel_rfl) (fun _ _ _ h => h) (by rfl) hS1 (fun w' hS' => ?ry2) ?rz2
  case ry2 =>
    clear hS'
    go_simp
    first | done | rfl | (simp; done)
  simp only [List.setIfInBounds_toArray, List.set_cons_zero, List.set_cons_succ]
  refine take_op 3 (v := .bool false) rfl (by kernel_rfl) (fun _ _ _ h => h) (by rfl) hS1 (fun w' hS' => ?ry3) ?rz3
  case ry3 =>
    clear hS'
    go_simp
    first | done | rfl | (simp; done)
  simp only [List.setIfInBounds_toArray, List.set_cons_zero, List.set_cons_succ]
  refine take_op 4 (v := .bool false) rfl (by kernel_rfl) (fun _ _ _ h => h) (by rfl) hS1 (fun w' hS' => ?ry4) ?rz4
  case ry4 =>
    clear hS'
    go_simp
    first | done | rfl | (simp; done)
  simp only [List.setIfInBounds_toArray, List.set_cons_zero, List.set_cons_succ]
  refine take_op 5 (v := ?rv5) rfl (by kernel_rfl) (fun _ _ _ h => h) (by rfl) hS1 (fun w' hS' => ?ry5) ?rz5
  case ry5 =>
    go_simp
    rfl
  simp only [List.setIfInBounds_toArray, List.set_cons_zero, List.set_cons_succ]
  refine take_op 6 (v := .bool false) rfl (by kernel_rfl) (fun _ _ _ h => h) (by rfl) hS1 (fun w' hS' => ?ry6) ?rz6
  case ry6 =>
    clear hS'
    go_simp
    first | done | rfl | (simp; done)
  simp only [List.setIfInBounds_toArray, List.set_cons_zero, List.set_cons_succ]
  refine take_op 7 (v := .bool false) rfl (by kernel_rfl) (fun _ _ _ h => h) (by rfl) hS1 (fun w' hS' => ?ry7) ?rz7
  case ry7 =>
    clear hS'
    go_simp
    first | done | rfl | (simp; done)
  simp only [List.setIfInBounds_toArray, List.set_cons_zero, List.set_cons_succ]
  refine take_op 8 (v := .bool false) rfl (by kernel_rfl) (fun _ _ _ h => h) (by rfl) hS1 (fun w' hS' => ?ry8) ?rz8
  case ry8 =>
    clear hS'
    go_simp
    first | done | rfl | (simp; done)
  simp only [List.setIfInBounds_toArray, List.set_cons_zero, List.set_cons_succ]
  refine take_op 9 (v := ?rv9) rfl (by kernel_rfl) (fun _ _ _ h => h) (by rfl) hS1 (fun w' hS' => ?ry9) ?rz9
  case ry9 =>
    go_simp
    rfl
  simp only [List.setIfInBounds_toArray, List.set_cons_zero, List.set_cons_succ]
  refine step_op 10 (by kernel_rfl) rfl (fun K hK => ?_)
  rw [if_pos (by rfl)]
  go_simp
  have kx := Blk.new X1 3 #[.int .i64 200, .int .i64 185]
  obtain ⟨X2, hE⟩ : ∃ X, X1.alloc (.cells #[.int .i64 200, .int .i64 185] 3) = X := ⟨_, rfl⟩
  rw [hE] at kx ⊢
  obtain ⟨bkx, hbk⟩ : ∃ b, X1.heap.size = b := ⟨_, rfl⟩
  rw [hbk] at kx ⊢
  have hb : Below X1.heap.size X1 X2 := alloc_below hE
  have hS2 : Below V16.heap.size V16 X2 := hS1.trans (hb.mono hS1.size)
  clear hb hE hbk
  refine hK.out _ _ (fun h => hS2) ?_
  clear hK K
  try simp only [Act.put, List.setIfInBounds_toArray, List.set_cons_zero, List.set_cons_succ]
  refine step_op 11 (by kernel_rfl) rfl (fun K hK => ?_)
  rw [if_pos (by rfl)]
  go_simp
  refine (SameInts_eq la (some ⟨bkx, 0, none⟩) lc 2 2 [200, 185] (Lib.hid rfl) X2 (by decide) (later_i rl hS2) (rd_litA kx rfl)).mono ?_
  rintro e X3 ⟨rfl, hb⟩
  replace kx := kx.below hb kx.lt
  have hS3 : Below V16.heap.size V16 X3 := hS2.trans (hb.mono hS2.size)
  clear hb
  refine hK.out _ _ (fun h => hS3) ?_
  clear hK K
  try simp only [Act.put, List.setIfInBounds_toArray, List.set_cons_zero, List.set_cons_succ]
  refine take_op 12 (v := .bool false) rfl (by kernel_rfl) (fun _ _ _ h => h) (by rfl) hS3 (fun w' hS' => ?ry12) ?rz12
  case ry12 =>
    clear hS'
    go_simp
    first | done | rfl | (simp; done)
  simp only [List.setIfInBounds_toArray, List.set_cons_zero, List.set_cons_succ]
  refine take_op 13 (v := .bool false) rfl (by kernel_rfl) (fun _ _ _ h => h) (by rfl) hS3 (fun w' hS' => ?ry13) ?rz13
  case ry13 =>
    clear hS'
    go_simp
    first | done | rfl | (simp; done)
  simp only [List.setIfInBounds_toArray, List.set_cons_zero, List.set_cons_succ]
  refine take_op 14 (v := .bool false) rfl (by kernel_rfl) (fun _ _ _ h => h) (by rfl) hS3 (fun w' hS' => ?ry14) ?rz14
  case ry14 =>
    clear hS'
    go_simp
    first | done | rfl | (simp; done)
  simp only [List.setIfInBounds_toArray, List.set_cons_zero, List.set_cons_succ]
  refine take_op 15 (v := ?rv15) rfl (by kernel_rfl) (fun _ _ _ h => h) (by rfl) hS3 (fun w' hS' => ?ry15) ?rz15
  case ry15 =>
    go_simp
    rfl
  simp only [List.setIfInBounds_toArray, List.set_cons_zero, List.set_cons_succ]
  refine take_op 16 (v := .bool false) rfl (by kernel_rfl) (fun _ _ _ h => h) (by rfl) hS3 (fun w' hS' => ?ry16) ?rz16
  case ry16 =>
    clear hS'
    go_simp
    first | done | rfl | (simp; done)
  simp only [List.setIfInBounds_toArray, List.set_cons_zero, List.set_cons_succ]
  refine take_op 17 (v := .bool false) rfl (by kernel_rfl) (fun _ _ _ h => h) (by rfl) hS3 (fun w' hS' => ?ry17) ?rz17
  case ry17 =>
    clear hS'
    go_simp
    first | done | rfl | (simp; done)
  simp only [List.setIfInBounds_toArray, List.set_cons_zero, List.set_cons_succ]
  refine take_op 18 (v := .bool false) rfl (by kernel_rfl) (fun _ _ _ h => h) (by rfl) hS3 (fun w' hS' => ?ry18) ?rz18
  case ry18 =>
    clear hS'
    go_simp
    first | done | rfl | (simp; done)
  simp only [List.setIfInBounds_toArray, List.set_cons_zero, List.set_cons_succ]
  refine take_op 19 (v := ?rv19) rfl (by kernel_rfl) (fun _ _ _ h => h) (by rfl) hS3 (fun w' hS' => ?ry19) ?rz19
  case ry19 =>
    go_simp
    rfl
  simp only [List.setIfInBounds_toArray, List.set_cons_zero, List.set_cons_succ]
  refine take_op 20 (v := .bool false) rfl (by kernel_rfl) (fun _ _ _ h => h) (by rfl) hS3 (fun w' hS' => ?ry20) ?rz20
  case ry20 =>
    clear hS'
    go_simp
    first | done | rfl | (simp; done)
  simp only [List.setIfInBounds_toArray, List.set_cons_zero, List.set_cons_succ]
  refine take_op 21 (v := .bool false) rfl (by kernel_rfl) (fun _ _ _ h => h) (by rfl) hS3 (fun w' hS' => ?ry21) ?rz21
  case ry21 =>
    clear hS'
    go_simp
    first | done | rfl | (simp; done)
  simp only [List.setIfInBounds_toArray, List.set_cons_zero, List.set_cons_succ]
  refine take_op 22 (v := .bool false) rfl (by kernel_rfl) (fun _ _ _ h => h) (by rfl) hS3 (fun w' hS' => ?ry22) ?rz22
  case ry22 =>
    clear hS'
    go_simp
    first | done | rfl | (simp; done)
  simp only [List.setIfInBounds_toArray, List.set_cons_zero, List.set_cons_succ]
  refine take_op 23 (v := ?rv23) rfl (by kernel_rfl) (fun _ _ _ h => h) (by rfl) hS3 (fun w' hS' => ?ry23) ?rz23
  case ry23 =>
    go_simp
    rfl
  simp only [List.setIfInBounds_toArray, List.set_cons_zero, List.set_cons_succ]
  refine take_op 24 (v := .bool false) rfl (by kernel_rfl) (fun _ _ _ h => h) (by rfl) hS3 (fun w' hS' => ?ry24) ?rz24
  case ry24 =>
    clear hS'
    go_simp
    first | done | rfl | (simp; done)
  simp only [List.setIfInBounds_toArray, List.set_cons_zero, List.set_cons_succ]
  refine take_op 25 (v := .bool false) rfl (by kernel_rfl) (fun _ _ _ h => h) (by rfl) hS3 (fun w' hS' => ?ry25) ?rz25
  case ry25 =>
    clear hS'
    go_simp
    first | done | rfl | (simp; done)
  simp only [List.setIfInBounds_toArray, List.set_cons_zero, List.set_cons_succ]
  refine take_op 26 (v := .bool false) rfl (by kernel_rfl) (fun _ _ _ h => h) (by rfl) hS3 (fun w' hS' => ?ry26) ?rz26
  case ry26 =>
    clear hS'
    go_simp
    first | done | rfl | (simp; done)
  simp only [List.setIfInBounds_toArray, List.set_cons_zero, List.set_cons_succ]
  refine take_op 27 (v := ?rv27) rfl (by kernel_rfl) (fun _ _ _ h => h) (by rfl) hS3 (fun w' hS' => ?ry27) ?rz27
  case ry27 =>
    go_simp
    rfl
  simp only [List.setIfInBounds_toArray, List.set_cons_zero, List.set_cons_succ]
  refine take_op 28 (v := .bool false) rfl (by kernel_rfl) (fun _ _ _ h => h) (by rfl) hS3 (fun w' hS' => ?ry28) ?rz28
  case ry28 =>
    clear hS'
    go_simp
    first | done | rfl | (simp; done)
  simp only [List.setIfInBounds_toArray, List.set_cons_zero, List.set_cons_succ]
  refine take_op 29 (v := .bool false) rfl (by kernel_rfl) (fun _ _ _ h => h) (by rfl) hS3 (fun w' hS' => ?ry29) ?rz29
  case ry29 =>
    clear hS'
    go_simp
    first | done | rfl | (simp; done)
  simp only [List.setIfInBounds_toArray, List.set_cons_zero, List.set_cons_succ]
  refine take_op 30 (v := .bool false) rfl (by kernel_rfl) (fun _ _ _ h => h) (by rfl) hS3 (fun w' hS' => ?ry30) ?rz30
  case ry30 =>
    clear hS'
    go_simp
    first | done | rfl | (simp; done)
  simp only [List.setIfInBounds_toArray, List.set_cons_zero, List.set_cons_succ]
  refine take_op 31 (v := ?rv31) rfl (by kernel_rfl) (fun _ _ _ h => h) (by rfl) hS3 (fun w' hS' => ?ry31) ?rz31
  case ry31 =>
    go_simp
    rfl
  simp only [List.setIfInBounds_toArray, List.set_cons_zero, List.set_cons_succ]
  refine take_op 32 (v := .bool false) rfl (by kernel_rfl) (fun _ _ _ h => h) (by rfl) hS3 (fun w' hS' => ?ry32) ?rz32
  case ry32 =>
    clear hS'
    go_simp
    first | done | rfl | (simp; done)
  simp only [List.setIfInBounds_toArray, List.set_cons_zero, List.set_cons_succ]
  refine take_op 33 (v := .bool false) rfl (by kernel_rfl) (fun _ _ _ h => h) (by rfl) hS3 (fun w' hS' => ?ry33) ?rz33
  case ry33 =>
    clear hS'
    go_simp
    first | done | rfl | (simp; done)
  simp only [List.setIfInBounds_toArray, List.set_cons_zero, List.set_cons_succ]
  refine take_op 34 (v := .bool false) rfl (by kernel_rfl) (fun _ _ _ h => h) (by rfl) hS3 (fun w' hS' => ?ry34) ?rz34
  case ry34 =>
    clear hS'
    go_simp
    first | done | rfl | (simp; done)
  simp only [List.setIfInBounds_toArray, List.set_cons_zero, List.set_cons_succ]
  refine take_op 35 (v := ?rv35) rfl (by kernel_rfl) (fun _ _ _ h => h) (by rfl) hS3 (fun w' hS' => ?ry35) ?rz35
  case ry35 =>
    go_simp
    rfl
  simp only [List.setIfInBounds_toArray, List.set_cons_zero, List.set_cons_succ]
  refine take_op 36 (v := .bool false) rfl (by kernel_rfl) (fun _ _ _ h => h) (by rfl) hS3 (fun w' hS' => ?ry36) ?rz36
  case ry36 =>
    clear hS'
    go_simp
    first | done | rfl | (simp; done)
  simp only [List.setIfInBounds_toArray, List.set_cons_zero, List.set_cons_succ]
  refine take_op 37 (v := .bool false) rfl (by kernel_rfl) (fun _ _ _ h => h) (by rfl) hS3 (fun w' hS' => ?ry37) ?rz37
  case ry37 =>
    clear hS'
    go_simp
    first | done | rfl | (simp; done)
  simp only [List.setIfInBounds_toArray, List.set_cons_zero, List.set_cons_succ]
  refine take_op 38 (v := .bool false) rfl (by kernel_rfl) (fun _ _ _ h => h) (by rfl) hS3 (fun w' hS' => ?ry38) ?rz38
  case ry38 =>
    clear hS'
    go_simp
    first | done | rfl | (simp; done)
  simp only [List.setIfInBounds_toArray, List.set_cons_zero, List.set_cons_succ]
  refine take_op 39 (v := ?rv39) rfl (by kernel_rfl) (fun _ _ _ h => h) (by rfl) hS3 (fun w' hS' => ?ry39) ?rz39
  case ry39 =>
    go_simp
    rfl
  simp only [List.setIfInBounds_toArray, List.set_cons_zero, List.set_cons_succ]
  refine take_op 40 (v := .bool false) rfl (by kernel_rfl) (fun _ _ _ h => h) (by rfl) hS3 (fun w' hS' => ?ry40) ?rz40
  case ry40 =>
    clear hS'
    go_simp
    first | done | rfl | (simp; done)
  simp only [List.setIfInBounds_toArray, List.set_cons_zero, List.set_cons_succ]
  refine take_op 41 (v := .bool false) rfl (by kernel_rfl) (fun _ _ _ h => h) (by rfl) hS3 (fun w' hS' => ?ry41) ?rz41
  case ry41 =>
    clear hS'
    go_simp
    first | done | rfl | (simp; done)
  simp only [List.setIfInBounds_toArray, List.set_cons_zero, List.set_cons_succ]
  refine take_op 42 (v := .bool false) rfl (by kernel_rfl) (fun _ _ _ h => h) (by rfl) hS3 (fun w' hS' => ?ry42) ?rz42
  case ry42 =>
    clear hS'
    go_simp
    first | done | rfl | (simp; done)
  simp only [List.setIfInBounds_toArray, List.set_cons_zero, List.set_cons_succ]
  refine take_op 43 (v := ?rv43) rfl (by kernel_rfl) (fun _ _ _ h => h) (by rfl) hS3 (fun w' hS' => ?ry43) ?rz43
  case ry43 =>
    have e0 := (kP.below hS' kP.lt).cell (i := 0) rfl
    have f0 := (kQ.below hS' kQ.lt).cell (i := 0) rfl
    have e1 := (kP.below hS' kP.lt).cell (i := 1) rfl
    have f1 := (kQ.below hS' kQ.lt).cell (i := 1) rfl
    have e2 := (kP.below hS' kP.lt).cell (i := 2) rfl
    have f2 := (kQ.below hS' kQ.lt).cell (i := 2) rfl
    clear hS'
    go_simp
    rfl
  simp only [List.setIfInBounds_toArray, List.set_cons_zero, List.set_cons_succ]
  refine step_op 44 (by kernel_rfl) rfl (fun K hK => ?_)
  rw [if_pos (by rfl)]
  go_simp
  have ky := Blk.new X3 3 #[.int .i64 50, .int .i64 50]
  obtain ⟨X4, hE⟩ : ∃ X, X3.alloc (.cells #[.int .i64 50, .int .i64 50] 3) = X := ⟨_, rfl⟩
  rw [hE] at ky ⊢
  obtain ⟨bky, hbk⟩ : ∃ b, X3.heap.size = b := ⟨_, rfl⟩
  rw [hbk] at ky ⊢
  have hb : Below X3.heap.size X3 X4 := alloc_below hE
  have hS4 : Below V16.heap.size V16 X4 := hS3.trans (hb.mono hS3.size)
  clear hb hE hbk
  refine hK.out _ _ (fun h => hS4) ?_
  clear hK K
  try simp only [Act.put, List.setIfInBounds_toArray, List.set_cons_zero, List.set_cons_succ]
  refine step_op 45 (by kernel_rfl) rfl (fun K hK => ?_)
  rw [if_pos (by rfl)]
  go_simp
  refine (row8_any (some ⟨bky, 0, none⟩) 2 2 X4).mono ?_
  rintro e X5 ⟨rfl, hb⟩
  replace ky := ky.below hb ky.lt
  have hS5 : Below V16.heap.size V16 X5 := hS4.trans (hb.mono hS4.size)
  clear hb
  refine hK.out _ _ (fun h => hS5) ?_
  clear hK K
  try simp only [Act.put, List.setIfInBounds_toArray, List.set_cons_zero, List.set_cons_succ]
  refine step_op 46 (by kernel_rfl) rfl (fun K hK => ?_)
  rw [if_pos (by rfl)]
  go_simp
  refine (Same_eq 2 1 pa (some ⟨bky, 0, none⟩) pc 2 2 [50, 50] (Lib.hid rfl) X5 (by decide) (later_i rp hS5) (rd_litA ky rfl)).mono ?_
  rintro e X6 ⟨rfl, hb⟩
  have hS6 : Below V16.heap.size V16 X6 := hS5.trans (hb.mono hS5.size)
  clear hb
  refine hK.out _ _ (fun h => hS6) ?_
  clear hK K
  try simp only [Act.put, List.setIfInBounds_toArray, List.set_cons_zero, List.set_cons_succ]
  refine take_op 47 (v := .bool false) rfl (by kernel_rfl) (fun _ _ _ h => h) (by rfl) hS6 (fun w' hS' => ?ry47) ?rz47
  case ry47 =>
    clear hS'
    go_simp
    first | done | rfl | (simp; done)
  simp only [List.setIfInBounds_toArray, List.set_cons_zero, List.set_cons_succ]
  refine take_op 48 (v := .bool false) rfl (by kernel_rfl) (fun _ _ _ h => h) (by rfl) hS6 (fun w' hS' => ?ry48) ?rz48
  case ry48 =>
    clear hS'
    go_simp
    first | done | rfl | (simp; done)
  simp only [List.setIfInBounds_toArray, List.set_cons_zero, List.set_cons_succ]
  refine take_op 49 (v := .bool false) rfl (by kernel_rfl) (fun _ _ _ h => h) (by rfl) hS6 (fun w' hS' => ?ry49) ?rz49
  case ry49 =>
    clear hS'
    go_simp
    first | done | rfl | (simp; done)
  simp only [List.setIfInBounds_toArray, List.set_cons_zero, List.set_cons_succ]
  refine take_op 50 (v := ?rv50) rfl (by kernel_rfl) (fun _ _ _ h => h) (by rfl) hS6 (fun w' hS' => ?ry50) ?rz50
  case ry50 =>
    have e0 := (kP.below hS' kP.lt).cell (i := 0) rfl
    have f0 := (kQ.below hS' kQ.lt).cell (i := 0) rfl
    have e1 := (kP.below hS' kP.lt).cell (i := 1) rfl
    have f1 := (kQ.below hS' kQ.lt).cell (i := 1) rfl
    have e2 := (kP.below hS' kP.lt).cell (i := 2) rfl
    have f2 := (kQ.below hS' kQ.lt).cell (i := 2) rfl
    clear hS'
    go_simp
    rfl
  simp only [List.setIfInBounds_toArray, List.set_cons_zero, List.set_cons_succ]
  refine step_op 51 (by kernel_rfl) rfl (fun K hK => ?_)
  rw [if_pos (by rfl)]
  go_simp
  have kz := Blk.new X6 3 #[.int .i64 100, .int .i64 100]
  obtain ⟨X7, hE⟩ : ∃ X, X6.alloc (.cells #[.int .i64 100, .int .i64 100] 3) = X := ⟨_, rfl⟩
  rw [hE] at kz ⊢
  obtain ⟨bkz, hbk⟩ : ∃ b, X6.heap.size = b := ⟨_, rfl⟩
  rw [hbk] at kz ⊢
  have hb : Below X6.heap.size X6 X7 := alloc_below hE
  have hS7 : Below V16.heap.size V16 X7 := hS6.trans (hb.mono hS6.size)
  clear hb hE hbk
  refine hK.out _ _ (fun h => hS7) ?_
  clear hK K
  try simp only [Act.put, List.setIfInBounds_toArray, List.set_cons_zero, List.set_cons_succ]
  refine step_op 52 (by kernel_rfl) rfl (fun K hK => ?_)
  rw [if_pos (by rfl)]
  go_simp
  refine (row8_any (some ⟨bkz, 0, none⟩) 2 2 X7).mono ?_
  rintro e X8 ⟨rfl, hb⟩
  replace kz := kz.below hb kz.lt
  have hS8 : Below V16.heap.size V16 X8 := hS7.trans (hb.mono hS7.size)
  clear hb
  refine hK.out _ _ (fun h => hS8) ?_
  clear hK K
  try simp only [Act.put, List.setIfInBounds_toArray, List.set_cons_zero, List.set_cons_succ]
  refine step_op 53 (by kernel_rfl) rfl (fun K hK => ?_)
  rw [if_pos (by rfl)]
  go_simp
  refine (Same_eq 2 1 qa (some ⟨bkz, 0, none⟩) qc 2 2 [100, 100] (Lib.hid rfl) X8 (by decide) (later_i rq hS8) (rd_litA kz rfl)).mono ?_
  rintro e X9 ⟨rfl, hb⟩
  have hS9 : Below V16.heap.size V16 X9 := hS8.trans (hb.mono hS8.size)
  clear hb
  refine hK.out _ _ (fun h => hS9) ?_
  clear hK K
  try simp only [Act.put, List.setIfInBounds_toArray, List.set_cons_zero, List.set_cons_succ]
  refine take_op 54 (v := .bool false) rfl (by kernel_rfl) (fun _ _ _ h => h) (by rfl) hS9 (fun w' hS' => ?ry54) ?rz54
  case ry54 =>
    clear hS'
    go_simp
    first | done | rfl | (simp; done)
  simp only [List.setIfInBounds_toArray, List.set_cons_zero, List.set_cons_succ]
  refine take_op 55 (v := .bool false) rfl (by kernel_rfl) (fun _ _ _ h => h) (by rfl) hS9 (fun w' hS' => ?ry55) ?rz55
  case ry55 =>
    clear hS'
    go_simp
    first | done | rfl | (simp; done)
  simp only [List.setIfInBounds_toArray, List.set_cons_zero, List.set_cons_succ]
  refine done_ops (by kernel_rfl) ?_
  replace hB := hB.trans (hS9.mono hB.size)
  clear hS hS1 hS2 hS3 hS4 hS5 hS6 hS7 hS8 hS9 kx ky kz kP kQ rp rq rl
  go_wp2_with fail
  have hc := two_any X9
  refine hc.mono ?_
  clear hc
  rintro e V17 ⟨na, nc, rfl, rn, hb⟩
  replace hB := hB.trans (hb.mono hB.size)
  clear hb
  have hbV18 : Below V17.heap.size V17 (V17.alloc (.cells #[.int .i64 0, .int .i64 0] 3)) := jb_al (Below.refl _ V17) _
  have kL := Blk.new V17 3 #[.int .i64 0, .int .i64 0]
  obtain ⟨V18, hEV18⟩ : ∃ X, V17.alloc (.cells #[.int .i64 0, .int .i64 0] 3) = X := ⟨_, rfl⟩
  rw [hEV18] at hbV18 kL
  replace rn := later_l rn hbV18
  replace hB := hB.trans (hbV18.mono hB.size)
  clear hbV18
  go_wp2_with fail
  clear hEV18
  have hc := row8_any (some ⟨V17.heap.size, 0, none⟩) 2 2 V18
  refine hc.mono ?_
  clear hc
  rintro e V19 ⟨rfl, hb⟩
  replace kL := kL.below hb kL.lt
  replace rn := later_l rn hb
  replace hB := hB.trans (hb.mono hB.size)
  clear hb
  have hbV20 : Below V19.heap.size V19 (V19.alloc (.cells #[.int .i64 3, .int .i64 3] 3)) := jb_al (Below.refl _ V19) _
  have kM := Blk.new V19 3 #[.int .i64 3, .int .i64 3]
  obtain ⟨V20, hEV20⟩ : ∃ X, V19.alloc (.cells #[.int .i64 3, .int .i64 3] 3) = X := ⟨_, rfl⟩
  rw [hEV20] at hbV20 kM
  replace kL := kL.below hbV20 kL.lt
  replace rn := later_l rn hbV20
  replace hB := hB.trans (hbV20.mono hB.size)
  clear hbV20
  go_wp2_with fail
  clear hEV20
  have hc := row8_any (some ⟨V19.heap.size, 0, none⟩) 2 2 V20
  refine hc.mono ?_
  clear hc
  rintro e V21 ⟨rfl, hb⟩
  replace kL := kL.below hb kL.lt
  replace kM := kM.below hb kM.lt
  replace rn := later_l rn hb
  replace hB := hB.trans (hb.mono hB.size)
  clear hb
  go_wp2_with fail
  have hc := Certify_any twoN na 2 nc rfl twoN_sz ⟨2, 1, [0, 0]⟩ ⟨2, 1, [3, 3]⟩ (some ⟨V17.heap.size, 0, none⟩) (some ⟨V19.heap.size, 0, none⟩) 2 2 2 2 rfl rfl (by decide) (by decide) 0 V21 rn (rd_litA kL rfl) (rd_litA kM rfl)
  unfold RetCert at hc
  rw [show certV twoN ⟨2, 1, [0, 0]⟩ ⟨2, 1, [3, 3]⟩ 0 = 2 from by kernel_rfl, show certE twoN ⟨2, 1, [0, 0]⟩ ⟨2, 1, [3, 3]⟩ 0 = 0 from by kernel_rfl] at hc
  refine hc.mono ?_
  clear hc
  rintro e V22 ⟨rfl, hb⟩
  replace kL := kL.below hb kL.lt
  replace kM := kM.below hb kM.lt
  replace rn := later_l rn hb
  replace hB := hB.trans (hb.mono hB.size)
  clear hb
  clear kL kM
  clear rn
  go_wp2_with fail
  have hc := two_any V22
  refine hc.mono ?_
  clear hc
  rintro e V23 ⟨na, nc, rfl, rn, hb⟩
  replace hB := hB.trans (hb.mono hB.size)
  clear hb
  have hbV24 : Below V23.heap.size V23 (V23.alloc (.cells #[.int .i64 100, .int .i64 100] 3)) := jb_al (Below.refl _ V23) _
  have kL := Blk.new V23 3 #[.int .i64 100, .int .i64 100]
  obtain ⟨V24, hEV24⟩ : ∃ X, V23.alloc (.cells #[.int .i64 100, .int .i64 100] 3) = X := ⟨_, rfl⟩
  rw [hEV24] at hbV24 kL
  replace rn := later_l rn hbV24
  replace hB := hB.trans (hbV24.mono hB.size)
  clear hbV24
  go_wp2_with fail
  clear hEV24
  have hc := row8_any (some ⟨V23.heap.size, 0, none⟩) 2 2 V24
  refine hc.mono ?_
  clear hc
  rintro e V25 ⟨rfl, hb⟩
  replace kL := kL.below hb kL.lt
  replace rn := later_l rn hb
  replace hB := hB.trans (hb.mono hB.size)
  clear hb
  have hbV26 : Below V25.heap.size V25 (V25.alloc (.cells #[.int .i64 115, .int .i64 115] 3)) := jb_al (Below.refl _ V25) _
  have kM := Blk.new V25 3 #[.int .i64 115, .int .i64 115]
  obtain ⟨V26, hEV26⟩ : ∃ X, V25.alloc (.cells #[.int .i64 115, .int .i64 115] 3) = X := ⟨_, rfl⟩
  rw [hEV26] at hbV26 kM
  replace kL := kL.below hbV26 kL.lt
  replace rn := later_l rn hbV26
  replace hB := hB.trans (hbV26.mono hB.size)
  clear hbV26
  go_wp2_with fail
  clear hEV26
  have hc := row8_any (some ⟨V25.heap.size, 0, none⟩) 2 2 V26
  refine hc.mono ?_
  clear hc
  rintro e V27 ⟨rfl, hb⟩
  replace kL := kL.below hb kL.lt
  replace kM := kM.below hb kM.lt
  replace rn := later_l rn hb
  replace hB := hB.trans (hb.mono hB.size)
  clear hb
  go_wp2_with fail
  have hc := Certify_any twoN na 2 nc rfl twoN_sz ⟨2, 1, [100, 100]⟩ ⟨2, 1, [115, 115]⟩ (some ⟨V23.heap.size, 0, none⟩) (some ⟨V25.heap.size, 0, none⟩) 2 2 2 2 rfl rfl (by decide) (by decide) 0 V27 rn (rd_litA kL rfl) (rd_litA kM rfl)
  unfold RetCert at hc
  rw [show certV twoN ⟨2, 1, [100, 100]⟩ ⟨2, 1, [115, 115]⟩ 0 = 3 from by kernel_rfl, show certE twoN ⟨2, 1, [100, 100]⟩ ⟨2, 1, [115, 115]⟩ 0 = 0 from by kernel_rfl] at hc
  refine hc.mono ?_
  clear hc
  rintro e V28 ⟨rfl, hb⟩
  replace kL := kL.below hb kL.lt
  replace kM := kM.below hb kM.lt
  replace rn := later_l rn hb
  replace hB := hB.trans (hb.mono hB.size)
  clear hb
  clear kL kM
  clear rn
  go_wp2_with fail
  have hc := two_any V28
  refine hc.mono ?_
  clear hc
  rintro e V29 ⟨na, nc, rfl, rn, hb⟩
  replace hB := hB.trans (hb.mono hB.size)
  clear hb
  have hbV30 : Below V29.heap.size V29 (V29.alloc (.cells #[.int .i64 100, .int .i64 100] 3)) := jb_al (Below.refl _ V29) _
  have kL := Blk.new V29 3 #[.int .i64 100, .int .i64 100]
  obtain ⟨V30, hEV30⟩ : ∃ X, V29.alloc (.cells #[.int .i64 100, .int .i64 100] 3) = X := ⟨_, rfl⟩
  rw [hEV30] at hbV30 kL
  replace rn := later_l rn hbV30
  replace hB := hB.trans (hbV30.mono hB.size)
  clear hbV30
  go_wp2_with fail
  clear hEV30
  have hc := row8_any (some ⟨V29.heap.size, 0, none⟩) 2 2 V30
  refine hc.mono ?_
  clear hc
  rintro e V31 ⟨rfl, hb⟩
  replace kL := kL.below hb kL.lt
  replace rn := later_l rn hb
  replace hB := hB.trans (hb.mono hB.size)
  clear hb
  have hbV32 : Below V31.heap.size V31 (V31.alloc (.cells #[.int .i64 115, .int .i64 115] 3)) := jb_al (Below.refl _ V31) _
  have kM := Blk.new V31 3 #[.int .i64 115, .int .i64 115]
  obtain ⟨V32, hEV32⟩ : ∃ X, V31.alloc (.cells #[.int .i64 115, .int .i64 115] 3) = X := ⟨_, rfl⟩
  rw [hEV32] at hbV32 kM
  replace kL := kL.below hbV32 kL.lt
  replace rn := later_l rn hbV32
  replace hB := hB.trans (hbV32.mono hB.size)
  clear hbV32
  go_wp2_with fail
  clear hEV32
  have hc := row8_any (some ⟨V31.heap.size, 0, none⟩) 2 2 V32
  refine hc.mono ?_
  clear hc
  rintro e V33 ⟨rfl, hb⟩
  replace kL := kL.below hb kL.lt
  replace kM := kM.below hb kM.lt
  replace rn := later_l rn hb
  replace hB := hB.trans (hb.mono hB.size)
  clear hb
  go_wp2_with fail
  have hc := Certify_any twoN na 2 nc rfl twoN_sz ⟨2, 1, [100, 100]⟩ ⟨2, 1, [115, 115]⟩ (some ⟨V29.heap.size, 0, none⟩) (some ⟨V31.heap.size, 0, none⟩) 2 2 2 2 rfl rfl (by decide) (by decide) 1 V33 rn (rd_litA kL rfl) (rd_litA kM rfl)
  unfold RetCert at hc
  rw [show certV twoN ⟨2, 1, [100, 100]⟩ ⟨2, 1, [115, 115]⟩ 1 = 3 from by kernel_rfl, show certE twoN ⟨2, 1, [100, 100]⟩ ⟨2, 1, [115, 115]⟩ 1 = 0 from by kernel_rfl] at hc
  refine hc.mono ?_
  clear hc
  rintro e V34 ⟨rfl, hb⟩
  replace kL := kL.below hb kL.lt
  replace kM := kM.below hb kM.lt
  replace rn := later_l rn hb
  replace hB := hB.trans (hb.mono hB.size)
  clear hb
  clear kL kM
  clear rn
  have hbV35 : Below V34.heap.size V34 (V34.alloc (.cells #[.int .i64 5, .int .i64 7, .int .i64 9] 3)) := jb_al (Below.refl _ V34) _
  have kL := Blk.new V34 3 #[.int .i64 5, .int .i64 7, .int .i64 9]
  obtain ⟨V35, hEV35⟩ : ∃ X, V34.alloc (.cells #[.int .i64 5, .int .i64 7, .int .i64 9] 3) = X := ⟨_, rfl⟩
  rw [hEV35] at hbV35 kL
  replace hB := hB.trans (hbV35.mono hB.size)
  clear hbV35
  have hbV36 : Below V35.heap.size V35 (V35.alloc (.cells #[.int .i64 2, .int .i64 6] 3)) := jb_al (Below.refl _ V35) _
  have kM := Blk.new V35 3 #[.int .i64 2, .int .i64 6]
  obtain ⟨V36, hEV36⟩ : ∃ X, V35.alloc (.cells #[.int .i64 2, .int .i64 6] 3) = X := ⟨_, rfl⟩
  rw [hEV36] at hbV36 kM
  replace kL := kL.below hbV36 kL.lt
  replace hB := hB.trans (hbV36.mono hB.size)
  clear hbV36
  go_wp2_with fail
  clear hEV35 hEV36
  have hc := Threshold_any (some ⟨V34.heap.size, 0, none⟩) (some ⟨V35.heap.size, 0, none⟩) 3 2 3 2 [5, 7, 9] [2, 6] rfl rfl (by decide) (by decide) 10 100 V36 (rd_litA kL rfl) (rd_litA kM rfl)
  refine hc.mono ?_
  clear hc
  rintro e V37 ⟨t1, c1, f1, rfl, hb, hth⟩
  replace kL := kL.below hb kL.lt
  replace kM := kM.below hb kM.lt
  replace hB := hB.trans (hb.mono hB.size)
  clear hb
  obtain ⟨rfl, rfl, rfl⟩ := hth.unique th_ex2
  clear hth
  clear kL kM
  go_wp2_with fail
  have hc := Threshold_any none none 0 0 0 0 [] [] rfl rfl (by decide) (by decide) 10 100 V37 (.inl rfl) (.inl rfl)
  refine hc.mono ?_
  clear hc
  rintro e V38 ⟨t1, c1, f1, rfl, hb, hth⟩
  replace hB := hB.trans (hb.mono hB.size)
  clear hb
  obtain ⟨rfl, rfl, rfl⟩ := hth.unique th_ex3
  clear hth
  go_wp2_with fail
  have hc := half8_any V38
  refine hc.mono ?_
  clear hc
  rintro e V39 ⟨rfl, hb⟩
  replace hB := hB.trans (hb.mono hB.size)
  clear hb
  go_wp2_with fail
  have hc := AtMost_any 1 0 128 1 2 (by decide) (by decide) V39
  rw [show rateS 1 0 128 1 2 = (true, 0) from by kernel_rfl] at hc
  refine hc.mono ?_
  clear hc
  rintro e V40 ⟨rfl, hb⟩
  replace hB := hB.trans (hb.mono hB.size)
  clear hb
  go_wp2_with fail
  have hc := half8_any V40
  refine hc.mono ?_
  clear hc
  rintro e V41 ⟨rfl, hb⟩
  replace hB := hB.trans (hb.mono hB.size)
  clear hb
  go_wp2_with fail
  have hc := AtMost_any 1 0 127 1 2 (by decide) (by decide) V41
  rw [show rateS 1 0 127 1 2 = (false, 0) from by kernel_rfl] at hc
  refine hc.mono ?_
  clear hc
  rintro e V42 ⟨rfl, hb⟩
  replace hB := hB.trans (hb.mono hB.size)
  clear hb
  go_wp2_with fail
  have hc := half8_any V42
  refine hc.mono ?_
  clear hc
  rintro e V43 ⟨rfl, hb⟩
  replace hB := hB.trans (hb.mono hB.size)
  clear hb
  go_wp2_with fail
  have hc := Bound_any 1 0 1 2 (by decide) (by decide) V43
  rw [show boundS 1 0 1 2 = (128, 0) from by kernel_rfl] at hc
  refine hc.mono ?_
  clear hc
  rintro e V44 ⟨rfl, hb⟩
  replace hB := hB.trans (hb.mono hB.size)
  clear hb
  go_wp2_with fail
  have hc := half8_any V44
  refine hc.mono ?_
  clear hc
  rintro e V45 ⟨rfl, hb⟩
  replace hB := hB.trans (hb.mono hB.size)
  clear hb
  go_wp2_with fail
  have hc := Bound_any 3 3 1 2 (by decide) (by decide) V45
  rw [show boundS 3 3 1 2 = (256, 0) from by kernel_rfl] at hc
  refine hc.mono ?_
  clear hc
  rintro e V46 ⟨rfl, hb⟩
  replace hB := hB.trans (hb.mono hB.size)
  clear hb
  go_wp2_with fail
  have hc := quarter8_any V46
  refine hc.mono ?_
  clear hc
  rintro e V47 ⟨rfl, hb⟩
  replace hB := hB.trans (hb.mono hB.size)
  clear hb
  have hbV48 : Below V47.heap.size V47 (V47.alloc (.cells #[.int .i64 64, .int .i64 128, .int .i64 1, .int .i64 4] 67)) := jb_al (Below.refl _ V47) _
  have kT := Blk.new V47 67 #[.int .i64 64, .int .i64 128, .int .i64 1, .int .i64 4]
  obtain ⟨V48, hEV48⟩ : ∃ X, V47.alloc (.cells #[.int .i64 64, .int .i64 128, .int .i64 1, .int .i64 4] 67) = X := ⟨_, rfl⟩
  rw [hEV48] at hbV48 kT
  replace hB := hB.trans (hbV48.mono hB.size)
  clear hbV48
  go_upto_region 23 with fail
  clear hEV48
  have hTl := kT.lt
  go_cut [2, 24] (fun s2 s24 wx => ∃ bd : Nat, s24 = .pointer (some ⟨bd, 0, none⟩) ∧ s2 = .int .i64 0 ∧ V48.heap.size ≤ bd ∧ Blk wx bd 70 #[.int .i64 1, .int .i64 1, .bool false] ∧ Below V48.heap.size V48 wx)
  case first =>
    have hS : Below V48.heap.size V48 V48.drew := (Below.refl _ _).drew
    refine plain_region (fun W' => Below V48.heap.size V48 W') 9 9 (by kernel_rfl) rfl ?_
    simp only [Array.replicate_succ, Array.replicate_zero, List.push_toArray, List.nil_append, List.cons_append]
    obtain ⟨Xz, hXz⟩ : ∃ X, V48.drew = X := ⟨_, rfl⟩
    rw [hXz] at hS ⊢
    clear hXz
    refine take_op 0 (v := ?z1v) rfl (by kernel_rfl) (fun _ _ _ h => h) (by rfl) hS (fun w' hS' => ?z1y) ?z1z
    case z1y =>
      have c0 := (kT.below hS' kT.lt).cell (i := 0) rfl
      have c1 := (kT.below hS' kT.lt).cell (i := 1) rfl
      have c2 := (kT.below hS' kT.lt).cell (i := 2) rfl
      have c3 := (kT.below hS' kT.lt).cell (i := 3) rfl
      clear hS'
      go_simp
      rfl
    simp only [List.setIfInBounds_toArray, List.set_cons_zero, List.set_cons_succ]
    refine fork2 (i := 1) (j := 6) (by kernel_rfl) ?_ ?_
    · refine step_at 1 rfl (fun K hK => ?_)
      rw [if_pos (by rfl)]
      go_simp
      refine (Start_any Xz).mono ?_
      rintro e X1 ⟨rfl, hb⟩
      have hS1 : Below V48.heap.size V48 X1 := hS.trans (hb.mono hS.size)
      clear hb
      refine hK.out _ _ (fun h => hS1) ?_
      clear hK K
      try simp only [Act.put, List.setIfInBounds_toArray, List.set_cons_zero, List.set_cons_succ]
      refine fork2 (i := 2) (j := 6) (by kernel_rfl) ?_ ?_
      · refine step_at 2 rfl (fun K hK => ?_)
        rw [if_pos (by rfl)]
        go_simp
        have hc := Take_any 64 128 1 4 0 0 false true (by decide) (by decide) X1
        rw [show takeS 64 128 1 4 0 0 false true = ((1, 1, false), 0) from by kernel_rfl] at hc
        refine hc.mono ?_
        clear hc
        rintro e X2 ⟨rfl, hb⟩
        have hS2 : Below V48.heap.size V48 X2 := hS1.trans (hb.mono hS1.size)
        clear hb
        refine hK.out _ _ (fun h => hS2) ?_
        clear hK K
        try simp only [Act.put, List.setIfInBounds_toArray, List.set_cons_zero, List.set_cons_succ]
        refine take_op 3 (v := ?z2v) rfl (by kernel_rfl) (fun _ _ _ h => h) (by rfl) hS2 (fun w' hS' => ?z2y) ?z2z
        case z2y =>
          go_simp
          rfl
        simp only [List.setIfInBounds_toArray, List.set_cons_zero, List.set_cons_succ]
        refine take_op 4 (v := ?z3v) rfl (by kernel_rfl) (fun _ _ _ h => h) (by rfl) hS2 (fun w' hS' => ?z3y) ?z3z
        case z3y =>
          go_simp
          rfl
        simp only [List.setIfInBounds_toArray, List.set_cons_zero, List.set_cons_succ]
        refine take_op 5 (v := ?z4v) rfl (by kernel_rfl) (fun _ _ _ h => h) (by rfl) hS2 (fun w' hS' => ?z4y) ?z4z
        case z4y =>
          go_simp
          rfl
        simp only [List.setIfInBounds_toArray, List.set_cons_zero, List.set_cons_succ]
        refine step_op 6 (by kernel_rfl) rfl (fun K hK => ?_)
        rw [if_pos (by rfl)]
        go_simp
        have kd := Blk.new X2 70 #[.int .i64 0, .int .i64 0, .bool false]
        obtain ⟨bd, hbd⟩ : ∃ b, X2.heap.size = b := ⟨_, rfl⟩
        have hbdW : V48.heap.size ≤ bd := by have := hS2.size; omega
        obtain ⟨X6, hX6⟩ : ∃ X, X2.alloc (.cells #[.int .i64 0, .int .i64 0, .bool false] 70) = X := ⟨_, rfl⟩
        have hS6 : Below V48.heap.size V48 X6 := hX6 ▸ jb_al hS2 _
        rw [hX6] at kd ⊢
        rw [hbd] at kd ⊢
        clear hX6 hbd
        refine hK.out _ _ (fun h => hS6) ?_
        clear hK K
        try simp only [Act.put, List.setIfInBounds_toArray, List.set_cons_zero, List.set_cons_succ]
        refine step_op 7 (by kernel_rfl) rfl (fun K hK => ?_)
        have o0 := kd.cell (i := 0) rfl
        have o1 := kd.cell (i := 1) rfl
        have o2 := kd.cell (i := 2) rfl
        have fo0 := kd.frozen 0
        have fo1 := kd.frozen 1
        have fo2 := kd.frozen 2
        rw [if_pos (by rfl)]
        go_simp
        have hS7 := hS6.trans (put3_below hbdW (.int .i64 1) (.int .i64 1) (.bool false))
        refine hK.out _ _ (fun h => hS7) ?_
        clear hK K
        try simp only [Act.put, List.setIfInBounds_toArray, List.set_cons_zero, List.set_cons_succ]
        refine take_op 8 (v := ?z5v) rfl (by kernel_rfl) (fun _ _ _ h => h) (by rfl) hS7 (fun w' hS' => ?z5y) ?z5z
        case z5y =>
          go_simp
          rfl
        simp only [List.setIfInBounds_toArray, List.set_cons_zero, List.set_cons_succ]
        refine done_ops (by kernel_rfl) ?_
        go_wp2_with fail
        go_meet
        exact ⟨bd, rfl, rfl, hbdW, put3_blk kd _ _ _, hS7⟩
      · refine step_at 6 rfl (fun K hK => ?_)
        rw [if_pos (by rfl)]
        go_simp
        have kd := Blk.new X1 70 #[.int .i64 0, .int .i64 0, .bool false]
        obtain ⟨bd, hbd⟩ : ∃ b, X1.heap.size = b := ⟨_, rfl⟩
        have hbdW : V48.heap.size ≤ bd := by have := hS1.size; omega
        obtain ⟨X6, hX6⟩ : ∃ X, X1.alloc (.cells #[.int .i64 0, .int .i64 0, .bool false] 70) = X := ⟨_, rfl⟩
        have hS6 : Below V48.heap.size V48 X6 := hX6 ▸ jb_al hS1 _
        rw [hX6] at kd ⊢
        rw [hbd] at kd ⊢
        clear hX6 hbd
        refine hK.out _ _ (fun h => hS6) ?_
        clear hK K
        try simp only [Act.put, List.setIfInBounds_toArray, List.set_cons_zero, List.set_cons_succ]
        refine step_op 2 (by kernel_rfl) rfl (fun K hK => ?_)
        rw [if_pos (by rfl)]
        go_simp
        have hc := Take_any 64 128 1 4 0 0 false true (by decide) (by decide) X6
        rw [show takeS 64 128 1 4 0 0 false true = ((1, 1, false), 0) from by kernel_rfl] at hc
        refine hc.mono ?_
        clear hc
        rintro e X2 ⟨rfl, hb⟩
        replace kd := kd.below hb kd.lt
        have hS2 : Below V48.heap.size V48 X2 := hS6.trans (hb.mono hS6.size)
        clear hb
        refine hK.out _ _ (fun h => hS2) ?_
        clear hK K
        try simp only [Act.put, List.setIfInBounds_toArray, List.set_cons_zero, List.set_cons_succ]
        refine take_op 3 (v := ?z6v) rfl (by kernel_rfl) (fun _ _ _ h => h) (by rfl) hS2 (fun w' hS' => ?z6y) ?z6z
        case z6y =>
          go_simp
          rfl
        simp only [List.setIfInBounds_toArray, List.set_cons_zero, List.set_cons_succ]
        refine take_op 4 (v := ?z7v) rfl (by kernel_rfl) (fun _ _ _ h => h) (by rfl) hS2 (fun w' hS' => ?z7y) ?z7z
        case z7y =>
          go_simp
          rfl
        simp only [List.setIfInBounds_toArray, List.set_cons_zero, List.set_cons_succ]
        refine take_op 5 (v := ?z8v) rfl (by kernel_rfl) (fun _ _ _ h => h) (by rfl) hS2 (fun w' hS' => ?z8y) ?z8z
        case z8y =>
          go_simp
          rfl
        simp only [List.setIfInBounds_toArray, List.set_cons_zero, List.set_cons_succ]
        refine step_op 7 (by kernel_rfl) rfl (fun K hK => ?_)
        have o0 := kd.cell (i := 0) rfl
        have o1 := kd.cell (i := 1) rfl
        have o2 := kd.cell (i := 2) rfl
        have fo0 := kd.frozen 0
        have fo1 := kd.frozen 1
        have fo2 := kd.frozen 2
        rw [if_pos (by rfl)]
        go_simp
        have hS7 := hS2.trans (put3_below hbdW (.int .i64 1) (.int .i64 1) (.bool false))
        refine hK.out _ _ (fun h => hS7) ?_
        clear hK K
        try simp only [Act.put, List.setIfInBounds_toArray, List.set_cons_zero, List.set_cons_succ]
        refine take_op 8 (v := ?z9v) rfl (by kernel_rfl) (fun _ _ _ h => h) (by rfl) hS7 (fun w' hS' => ?z9y) ?z9z
        case z9y =>
          go_simp
          rfl
        simp only [List.setIfInBounds_toArray, List.set_cons_zero, List.set_cons_succ]
        refine done_ops (by kernel_rfl) ?_
        go_wp2_with fail
        go_meet
        exact ⟨bd, rfl, rfl, hbdW, put3_blk kd _ _ _, hS7⟩
    · refine step_at 6 rfl (fun K hK => ?_)
      rw [if_pos (by rfl)]
      go_simp
      have kd := Blk.new Xz 70 #[.int .i64 0, .int .i64 0, .bool false]
      obtain ⟨bd, hbd⟩ : ∃ b, Xz.heap.size = b := ⟨_, rfl⟩
      have hbdW : V48.heap.size ≤ bd := by have := hS.size; omega
      obtain ⟨X6, hX6⟩ : ∃ X, Xz.alloc (.cells #[.int .i64 0, .int .i64 0, .bool false] 70) = X := ⟨_, rfl⟩
      have hS6 : Below V48.heap.size V48 X6 := hX6 ▸ jb_al hS _
      rw [hX6] at kd ⊢
      rw [hbd] at kd ⊢
      clear hX6 hbd
      refine hK.out _ _ (fun h => hS6) ?_
      clear hK K
      try simp only [Act.put, List.setIfInBounds_toArray, List.set_cons_zero, List.set_cons_succ]
      refine step_op 1 (by kernel_rfl) rfl (fun K hK => ?_)
      rw [if_pos (by rfl)]
      go_simp
      refine (Start_any X6).mono ?_
      rintro e X1 ⟨rfl, hb⟩
      replace kd := kd.below hb kd.lt
      have hS1 : Below V48.heap.size V48 X1 := hS6.trans (hb.mono hS6.size)
      clear hb
      refine hK.out _ _ (fun h => hS1) ?_
      clear hK K
      try simp only [Act.put, List.setIfInBounds_toArray, List.set_cons_zero, List.set_cons_succ]
      refine step_op 2 (by kernel_rfl) rfl (fun K hK => ?_)
      rw [if_pos (by rfl)]
      go_simp
      have hc := Take_any 64 128 1 4 0 0 false true (by decide) (by decide) X1
      rw [show takeS 64 128 1 4 0 0 false true = ((1, 1, false), 0) from by kernel_rfl] at hc
      refine hc.mono ?_
      clear hc
      rintro e X2 ⟨rfl, hb⟩
      replace kd := kd.below hb kd.lt
      have hS2 : Below V48.heap.size V48 X2 := hS1.trans (hb.mono hS1.size)
      clear hb
      refine hK.out _ _ (fun h => hS2) ?_
      clear hK K
      try simp only [Act.put, List.setIfInBounds_toArray, List.set_cons_zero, List.set_cons_succ]
      refine take_op 3 (v := ?z10v) rfl (by kernel_rfl) (fun _ _ _ h => h) (by rfl) hS2 (fun w' hS' => ?z10y) ?z10z
      case z10y =>
        go_simp
        rfl
      simp only [List.setIfInBounds_toArray, List.set_cons_zero, List.set_cons_succ]
      refine take_op 4 (v := ?z11v) rfl (by kernel_rfl) (fun _ _ _ h => h) (by rfl) hS2 (fun w' hS' => ?z11y) ?z11z
      case z11y =>
        go_simp
        rfl
      simp only [List.setIfInBounds_toArray, List.set_cons_zero, List.set_cons_succ]
      refine take_op 5 (v := ?z12v) rfl (by kernel_rfl) (fun _ _ _ h => h) (by rfl) hS2 (fun w' hS' => ?z12y) ?z12z
      case z12y =>
        go_simp
        rfl
      simp only [List.setIfInBounds_toArray, List.set_cons_zero, List.set_cons_succ]
      refine step_op 7 (by kernel_rfl) rfl (fun K hK => ?_)
      have o0 := kd.cell (i := 0) rfl
      have o1 := kd.cell (i := 1) rfl
      have o2 := kd.cell (i := 2) rfl
      have fo0 := kd.frozen 0
      have fo1 := kd.frozen 1
      have fo2 := kd.frozen 2
      rw [if_pos (by rfl)]
      go_simp
      have hS7 := hS2.trans (put3_below hbdW (.int .i64 1) (.int .i64 1) (.bool false))
      refine hK.out _ _ (fun h => hS7) ?_
      clear hK K
      try simp only [Act.put, List.setIfInBounds_toArray, List.set_cons_zero, List.set_cons_succ]
      refine take_op 8 (v := ?z13v) rfl (by kernel_rfl) (fun _ _ _ h => h) (by rfl) hS7 (fun w' hS' => ?z13y) ?z13z
      case z13y =>
        go_simp
        rfl
      simp only [List.setIfInBounds_toArray, List.set_cons_zero, List.set_cons_succ]
      refine done_ops (by kernel_rfl) ?_
      go_wp2_with fail
      go_meet
      exact ⟨bd, rfl, rfl, hbdW, put3_blk kd _ _ _, hS7⟩
  case rest =>
  obtain ⟨bd, rfl, rfl, hbd, kd, hb⟩ := hcut
  have hwb : w.heap.size ≤ bd := Nat.le_trans hB.size hbd
  replace kT := kT.below hb kT.lt
  replace hB := hB.trans (hb.mono hB.size)
  clear hb
  obtain ⟨bT, hbT⟩ : ∃ b, V47.heap.size = b := ⟨_, rfl⟩
  rw [hbT] at kT hTl ⊢
  have hTd : bT < bd := by omega
  have c0 := kT.cell (i := 0) rfl
  have c1 := kT.cell (i := 1) rfl
  have c2 := kT.cell (i := 2) rfl
  have c3 := kT.cell (i := 3) rfl
  have q0 := kd.cell (i := 0) rfl
  have q1 := kd.cell (i := 1) rfl
  have q2 := kd.cell (i := 2) rfl
  go_wp2_with fail
  clear c0 c1 c2 c3 q0 q1 q2
  have hc := Take_any 64 128 1 4 1 1 false false (by decide) (by decide) wc
  rw [show takeS 64 128 1 4 1 1 false false = ((1, 2, false), 0) from by kernel_rfl] at hc
  refine hc.mono ?_
  clear hc
  rintro e V49 ⟨rfl, hb⟩
  replace kT := kT.below hb kT.lt
  replace kd := kd.below hb kd.lt
  replace hB := hB.trans (hb.mono hB.size)
  clear hb
  have d0 := kd.cell (i := 0) rfl
  have fd0 := kd.frozen 0
  have d1 := kd.cell (i := 1) rfl
  have fd1 := kd.frozen 1
  have d2 := kd.cell (i := 2) rfl
  have fd2 := kd.frozen 2
  have kdn := put3_blk kd (.int .i64 1) (.int .i64 2) (.bool false)
  have hg := put3_grow2 V49 bd (.int .i64 1) (.int .i64 2) (.bool false)
  have hbn : Below w.heap.size V49 (put3 V49 bd (.int .i64 1) (.int .i64 2) (.bool false)) := put3_below hwb (.int .i64 1) (.int .i64 2) (.bool false)
  replace kT := kT.kept hg (by simp; omega)
  obtain ⟨V50, hPV50⟩ : ∃ X, put3 V49 bd (.int .i64 1) (.int .i64 2) (.bool false) = X := ⟨_, rfl⟩
  rw [hPV50] at kdn hbn kT
  replace hB := hB.trans hbn
  replace kd := kdn
  clear kdn hg hbn
  have c0 := kT.cell (i := 0) rfl
  have c1 := kT.cell (i := 1) rfl
  have c2 := kT.cell (i := 2) rfl
  have c3 := kT.cell (i := 3) rfl
  have q0 := kd.cell (i := 0) rfl
  have q1 := kd.cell (i := 1) rfl
  have q2 := kd.cell (i := 2) rfl
  go_wp2_with fail
  clear hPV50 d0 d1 d2 fd0 fd1 fd2 c0 c1 c2 c3 q0 q1 q2
  have hc := Take_any 64 128 1 4 1 2 false true (by decide) (by decide) V50
  rw [show takeS 64 128 1 4 1 2 false true = ((2, 3, false), 0) from by kernel_rfl] at hc
  refine hc.mono ?_
  clear hc
  rintro e V51 ⟨rfl, hb⟩
  replace kT := kT.below hb kT.lt
  replace kd := kd.below hb kd.lt
  replace hB := hB.trans (hb.mono hB.size)
  clear hb
  have d0 := kd.cell (i := 0) rfl
  have fd0 := kd.frozen 0
  have d1 := kd.cell (i := 1) rfl
  have fd1 := kd.frozen 1
  have d2 := kd.cell (i := 2) rfl
  have fd2 := kd.frozen 2
  have kdn := put3_blk kd (.int .i64 2) (.int .i64 3) (.bool false)
  have hg := put3_grow2 V51 bd (.int .i64 2) (.int .i64 3) (.bool false)
  have hbn : Below w.heap.size V51 (put3 V51 bd (.int .i64 2) (.int .i64 3) (.bool false)) := put3_below hwb (.int .i64 2) (.int .i64 3) (.bool false)
  replace kT := kT.kept hg (by simp; omega)
  obtain ⟨V52, hPV52⟩ : ∃ X, put3 V51 bd (.int .i64 2) (.int .i64 3) (.bool false) = X := ⟨_, rfl⟩
  rw [hPV52] at kdn hbn kT
  replace hB := hB.trans hbn
  replace kd := kdn
  clear kdn hg hbn
  have q0 := kd.cell (i := 0) rfl
  have q1 := kd.cell (i := 1) rfl
  have q2 := kd.cell (i := 2) rfl
  go_wp2_with fail
  go_ret
  exact ⟨rfl, hB⟩

end Go.Proofs.YtbfigbpjoaccdaaGreat
