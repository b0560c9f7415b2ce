/- Contracts and laws (AlB, OpB). -/
import Derived.Deep.DeepCutAuto
import Derived.Test.YtbfigbpjoaccdaaGreatQD17
import Derived.Test.YtbfigbpjoaccdaaGreatQD19
import Derived.Test.YtbfigbpjoaccdaaGreatQD10
import Derived.Test.YtbfigbpjoaccdaaGreatQD20
import Derived.Test.YtbfigbpjoaccdaaGreatQD14
import Derived.Test.YtbfigbpjoaccdaaGreatQD4
import Derived.Test.YtbfigbpjoaccdaaGreatQD15
import Derived.Test.YtbfigbpjoaccdaaGreatQD2
namespace Go.Proofs.YtbfigbpjoaccdaaGreat
open Go Go.RowKit Go.Shelf
set_option linter.unusedVariables false
set_option linter.unusedSimpArgs false

theorem th_ex : ThS [5, 7, 9] [2, 6] 10 1 7 1 0 where
  bad := fun h => absurd h (by decide)
  none := fun _ h => absurd h (by decide)
  some := fun _ _ => ⟨rfl, rfl, 9, ⟨by decide, by decide⟩, ⟨by decide, by decide⟩⟩
set_option maxRecDepth 100000 in
set_option maxHeartbeats 64000000 in
theorem alive8_any (w : World) : Calls Tryz.prog 16 #[] w fun e w' => e = .returned (.bool true) ∧ Below w.heap.size w w' := by
  have hB : Below w.heap.size w w := Below.refl _ _
  go_enter Tryz.func16, Tryz.ntmps16
  go_wp2_with fail
  have hc := two_any w
  refine hc.mono ?_
  clear hc
  rintro e V1 ⟨na, nc, rfl, rn, hb⟩
  replace hB := hB.trans (hb.mono hB.size)
  clear hb
  have hbV2 : Below V1.heap.size V1 (V1.alloc (.cells #[.int .i64 200, .int .i64 185] 3)) := jb_al (Below.refl _ V1) _
  have kL := Blk.new V1 3 #[.int .i64 200, .int .i64 185]
  obtain ⟨V2, hEV2⟩ : ∃ X, V1.alloc (.cells #[.int .i64 200, .int .i64 185] 3) = X := ⟨_, rfl⟩
  rw [hEV2] at hbV2 kL
  replace rn := later_l rn hbV2
  replace hB := hB.trans (hbV2.mono hB.size)
  clear hbV2
  go_wp2_with fail
  clear hEV2
  have hc := row8_any (some ⟨V1.heap.size, 0, none⟩) 2 2 V2
  refine hc.mono ?_
  clear hc
  rintro e V3 ⟨rfl, hb⟩
  replace kL := kL.below hb kL.lt
  replace rn := later_l rn hb
  replace hB := hB.trans (hb.mono hB.size)
  clear hb
  go_wp2_with fail
  have hc := Classify_any twoN na 2 nc rfl twoN_sz ⟨2, 1, [200, 185]⟩ (some ⟨V1.heap.size, 0, none⟩) 2 2 rfl (by decide) V3 rn (rd_litA kL rfl)
  unfold RetCla at hc
  rw [show chkF twoN [⟨2, 1, [200, 185]⟩] = 0 from by kernel_rfl] at hc
  refine hc.mono ?_
  clear hc
  rintro e V4 ⟨s1, v1, rfl, hs1, hv1, hb⟩
  replace kL := kL.below hb kL.lt
  replace rn := later_l rn hb
  replace hB := hB.trans (hb.mono hB.size)
  clear hb
  rw [if_pos rfl, show scoreN twoN.Ls (featL twoN [200, 185]) = 15 from by kernel_rfl] at hs1
  rw [if_pos rfl, show scoreN twoN.Ls (featL twoN [200, 185]) = 15 from by kernel_rfl, show verdB twoN.low twoN.high 15 15 = 3 from by kernel_rfl] at hv1
  simp only [Int.cast_ofNat_Int] at hv1
  subst hs1 hv1
  clear kL
  clear rn
  have hbV5 : Below V4.heap.size V4 (V4.alloc (.cells #[.int .i64 100, .int .i64 50] 3)) := jb_al (Below.refl _ V4) _
  have kL := Blk.new V4 3 #[.int .i64 100, .int .i64 50]
  obtain ⟨V5, hEV5⟩ : ∃ X, V4.alloc (.cells #[.int .i64 100, .int .i64 50] 3) = X := ⟨_, rfl⟩
  rw [hEV5] at hbV5 kL
  replace hB := hB.trans (hbV5.mono hB.size)
  clear hbV5
  go_wp2_with fail
  clear hEV5
  have hc := row8_any (some ⟨V4.heap.size, 0, none⟩) 2 2 V5
  refine hc.mono ?_
  clear hc
  rintro e V6 ⟨rfl, hb⟩
  replace kL := kL.below hb kL.lt
  replace hB := hB.trans (hb.mono hB.size)
  clear hb
  go_wp2_with fail
  have hc := Spread_any 2 1 (some ⟨V4.heap.size, 0, none⟩) 2 2 [100, 50] (Lib.hid rfl) ⟨0, 90, 110, 1, 2⟩ V6 (by decide) (rd_litA kL rfl)
  rw [show sprS ⟨2, 1, [100, 50]⟩ ⟨0, 90, 110, 1, 2⟩ = ⟨2, 1, [87, 42], [113, 58], 0⟩ from by kernel_rfl] at hc
  refine hc.mono ?_
  clear hc
  rintro e V7 ⟨⟨v1, v2, rfl, ⟨t1, rfl, h1⟩, ⟨t2, rfl, h2⟩⟩, hb⟩
  replace kL := kL.below hb kL.lt
  replace hB := hB.trans (hb.mono hB.size)
  clear hb
  obtain ⟨pa, pc, rfl⟩ := row_slice h1
  obtain ⟨qa, qc, rfl⟩ := row_slice h2
  have rp := row_rd' rfl h1
  have rq := row_rd' rfl h2
  clear h1 h2
  simp only [List.length_cons, List.length_nil, Nat.reduceAdd]
  clear kL
  have kP := Blk.new V7 27 #[.int .i64 0, .int .i64 0, .slice none 0 0]
  obtain ⟨bkP, hx1⟩ : ∃ b, V7.heap.size = b := ⟨_, rfl⟩
  obtain ⟨V7a, hA⟩ : ∃ X, V7.alloc (.cells #[.int .i64 0, .int .i64 0, .slice none 0 0] 27) = X := ⟨_, rfl⟩
  have hba : Below V7.heap.size V7 V7a := alloc_below hA
  rw [hA, hx1] at kP
  have kQ := Blk.new V7a 27 #[.int .i64 0, .int .i64 0, .slice none 0 0]
  obtain ⟨bkQ, hx2⟩ : ∃ b, V7a.heap.size = b := ⟨_, rfl⟩
  obtain ⟨V7b, hA2⟩ : ∃ X, V7a.alloc (.cells #[.int .i64 0, .int .i64 0, .slice none 0 0] 27) = X := ⟨_, rfl⟩
  have hbb : Below V7a.heap.size V7a V7b := alloc_below hA2
  rw [hA2, hx2] at kQ
  have hlt12 : bkP < bkQ := hx2 ▸ kP.lt
  replace kP := kP.below hbb kP.lt
  have d0 := kP.cell (i := 0) rfl
  have fd0 := kP.frozen 0
  have d1 := kP.cell (i := 1) rfl
  have fd1 := kP.frozen 1
  have d2 := kP.cell (i := 2) rfl
  have fd2 := kP.frozen 2
  have hg1 := put3_grow2 V7b bkP (.int .i64 2) (.int .i64 1) (.slice pa 2 pc)
  have kPn := put3_blk kP (.int .i64 2) (.int .i64 1) (.slice pa 2 pc)
  replace kQ := kQ.kept hg1 (by simp; omega)
  obtain ⟨V7c, hA3⟩ : ∃ X, put3 V7b bkP (.int .i64 2) (.int .i64 1) (.slice pa 2 pc) = X := ⟨_, rfl⟩
  rw [hA3] at hg1 kPn kQ
  have e0 := kQ.cell (i := 0) rfl
  have fe0 := kQ.frozen 0
  have e1 := kQ.cell (i := 1) rfl
  have fe1 := kQ.frozen 1
  have e2 := kQ.cell (i := 2) rfl
  have fe2 := kQ.frozen 2
  have hg2 := put3_grow2 V7c bkQ (.int .i64 2) (.int .i64 1) (.slice qa 2 qc)
  have kQn := put3_blk kQ (.int .i64 2) (.int .i64 1) (.slice qa 2 qc)
  replace kP := kPn.kept hg2 (by simp; omega)
  obtain ⟨V8, hA4⟩ : ∃ X, put3 V7c bkQ (.int .i64 2) (.int .i64 1) (.slice qa 2 qc) = X := ⟨_, rfl⟩
  rw [hA4] at hg2 kP kQn
  replace kQ := kQn
  clear kPn kQn
  have hb : Below V7.heap.size V7 V8 := hba.trans ((hbb.mono hba.size).trans ((grown_below2 hg1 (by have := hba.size; have := hbb.size; omega) (by intro k e; cases e; omega)).trans (grown_below2 hg2 (by have := hba.size; have := hbb.size; have := hg1.size; omega) (by intro k e; cases e; omega))))
  replace rp := later_i rp hb
  replace rq := later_i rq hb
  replace hB := hB.trans (hb.mono hB.size)
  clear hb hba hbb hg1 hg2 hlt12
  go_wp2_with fail
  clear hA hA2 hA3 hA4 hx1 hx2 d0 d1 d2 fd0 fd1 fd2 e0 e1 e2 fe0 fe1 fe2
  have hc := two_any V8
  refine hc.mono ?_
  clear hc
  rintro e V9 ⟨na, nc, rfl, rn, hb⟩
  replace kP := kP.below hb kP.lt
  replace kQ := kQ.below hb kQ.lt
  replace rp := later_i rp hb
  replace rq := later_i rq hb
  replace hB := hB.trans (hb.mono hB.size)
  clear hb
  have hbV10 : Below V9.heap.size V9 (V9.alloc (.cells #[.int .i64 100, .int .i64 0] 3)) := jb_al (Below.refl _ V9) _
  have kL := Blk.new V9 3 #[.int .i64 100, .int .i64 0]
  obtain ⟨V10, hEV10⟩ : ∃ X, V9.alloc (.cells #[.int .i64 100, .int .i64 0] 3) = X := ⟨_, rfl⟩
  rw [hEV10] at hbV10 kL
  replace kP := kP.below hbV10 kP.lt
  replace kQ := kQ.below hbV10 kQ.lt
  replace rp := later_i rp hbV10
  replace rq := later_i rq hbV10
  replace rn := later_l rn hbV10
  replace hB := hB.trans (hbV10.mono hB.size)
  clear hbV10
  go_wp2_with fail
  clear hEV10
  have hc := row8_any (some ⟨V9.heap.size, 0, none⟩) 2 2 V10
  refine hc.mono ?_
  clear hc
  rintro e V11 ⟨rfl, hb⟩
  replace kP := kP.below hb kP.lt
  replace kQ := kQ.below hb kQ.lt
  replace kL := kL.below hb kL.lt
  replace rp := later_i rp hb
  replace rq := later_i rq hb
  replace rn := later_l rn hb
  replace hB := hB.trans (hb.mono hB.size)
  clear hb
  have hbV12 : Below V11.heap.size V11 (V11.alloc (.cells #[.int .i64 120, .int .i64 10] 3)) := jb_al (Below.refl _ V11) _
  have kM := Blk.new V11 3 #[.int .i64 120, .int .i64 10]
  obtain ⟨V12, hEV12⟩ : ∃ X, V11.alloc (.cells #[.int .i64 120, .int .i64 10] 3) = X := ⟨_, rfl⟩
  rw [hEV12] at hbV12 kM
  replace kP := kP.below hbV12 kP.lt
  replace kQ := kQ.below hbV12 kQ.lt
  replace kL := kL.below hbV12 kL.lt
  replace rp := later_i rp hbV12
  replace rq := later_i rq hbV12
  replace rn := later_l rn hbV12
  replace hB := hB.trans (hbV12.mono hB.size)
  clear hbV12
  go_wp2_with fail
  clear hEV12
  have hc := row8_any (some ⟨V11.heap.size, 0, none⟩) 2 2 V12
  refine hc.mono ?_
  clear hc
  rintro e V13 ⟨rfl, hb⟩
  replace kP := kP.below hb kP.lt
  replace kQ := kQ.below hb kQ.lt
  replace kL := kL.below hb kL.lt
  replace kM := kM.below hb kM.lt
  replace rp := later_i rp hb
  replace rq := later_i rq hb
  replace rn := later_l rn hb
  replace hB := hB.trans (hb.mono hB.size)
  clear hb
  go_wp2_with fail
  have hc := Certify_any twoN na 2 nc rfl twoN_sz ⟨2, 1, [100, 0]⟩ ⟨2, 1, [120, 10]⟩ (some ⟨V9.heap.size, 0, none⟩) (some ⟨V11.heap.size, 0, none⟩) 2 2 2 2 rfl rfl (by decide) (by decide) 0 V13 rn (rd_litA kL rfl) (rd_litA kM rfl)
  unfold RetCert at hc
  rw [show certV twoN ⟨2, 1, [100, 0]⟩ ⟨2, 1, [120, 10]⟩ 0 = 1 from by kernel_rfl, show certE twoN ⟨2, 1, [100, 0]⟩ ⟨2, 1, [120, 10]⟩ 0 = 0 from by kernel_rfl] at hc
  refine hc.mono ?_
  clear hc
  rintro e V14 ⟨rfl, hb⟩
  replace kP := kP.below hb kP.lt
  replace kQ := kQ.below hb kQ.lt
  replace kL := kL.below hb kL.lt
  replace kM := kM.below hb kM.lt
  replace rp := later_i rp hb
  replace rq := later_i rq hb
  replace rn := later_l rn hb
  replace hB := hB.trans (hb.mono hB.size)
  clear hb
  clear kL kM
  clear rn
  have hbV15 : Below V14.heap.size V14 (V14.alloc (.cells #[.int .i64 5, .int .i64 7, .int .i64 9] 3)) := jb_al (Below.refl _ V14) _
  have kL := Blk.new V14 3 #[.int .i64 5, .int .i64 7, .int .i64 9]
  obtain ⟨V15, hEV15⟩ : ∃ X, V14.alloc (.cells #[.int .i64 5, .int .i64 7, .int .i64 9] 3) = X := ⟨_, rfl⟩
  rw [hEV15] at hbV15 kL
  replace kP := kP.below hbV15 kP.lt
  replace kQ := kQ.below hbV15 kQ.lt
  replace rp := later_i rp hbV15
  replace rq := later_i rq hbV15
  replace hB := hB.trans (hbV15.mono hB.size)
  clear hbV15
  have hbV16 : Below V15.heap.size V15 (V15.alloc (.cells #[.int .i64 2, .int .i64 6] 3)) := jb_al (Below.refl _ V15) _
  have kM := Blk.new V15 3 #[.int .i64 2, .int .i64 6]
  obtain ⟨V16, hEV16⟩ : ∃ X, V15.alloc (.cells #[.int .i64 2, .int .i64 6] 3) = X := ⟨_, rfl⟩
  rw [hEV16] at hbV16 kM
  replace kP := kP.below hbV16 kP.lt
  replace kQ := kQ.below hbV16 kQ.lt
  replace kL := kL.below hbV16 kL.lt
  replace rp := later_i rp hbV16
  replace rq := later_i rq hbV16
  replace hB := hB.trans (hbV16.mono hB.size)
  clear hbV16
  go_wp2_with fail
  clear hEV15 hEV16
  have hc := Threshold_any (some ⟨V14.heap.size, 0, none⟩) (some ⟨V15.heap.size, 0, none⟩) 3 2 3 2 [5, 7, 9] [2, 6] rfl rfl (by decide) (by decide) 10 1 V16 (rd_litA kL rfl) (rd_litA kM rfl)
  refine hc.mono ?_
  clear hc
  rintro e V17 ⟨t1, c1, f1, rfl, hb, hth⟩
  replace kP := kP.below hb kP.lt
  replace kQ := kQ.below hb kQ.lt
  replace kL := kL.below hb kL.lt
  replace kM := kM.below hb kM.lt
  replace rp := later_i rp hb
  replace rq := later_i rq hb
  replace hB := hB.trans (hb.mono hB.size)
  clear hb
  obtain ⟨rfl, rfl, rfl⟩ := hth.unique th_ex
  clear hth
  clear kL kM
  go_wp2_with fail
  have hS : Below V17.heap.size V17 V17.drew := (Below.refl _ _).drew
  refine plain_region (fun W' => Below V17.heap.size V17 W') 48 48 (by kernel_rfl) rfl ?_
  simp only [Array.replicate_succ, Array.replicate_zero, List.push_toArray, List.nil_append, List.cons_append]
  obtain ⟨X0, hX0⟩ : ∃ X, V17.drew = X := ⟨_, rfl⟩
  rw [hX0] at hS ⊢
  clear hX0
  refine take_op 0 (v := ?rv0) rfl (by kernel_rfl) (fun _ _ _ h => h) (by rfl) hS (fun w' hS' => ?ry0) ?rz0
  case ry0 =>
    go_simp
    rfl
  simp only [List.setIfInBounds_toArray, List.set_cons_zero, List.set_cons_succ]
  refine take_op 1 (v := .bool false) rfl (by kernel_rfl) (fun _ _ _ h => h) (by rfl) hS (fun w' hS' => ?ry1) ?rz1
  case ry1 =>
    clear hS'
    go_simp
    first | done | rfl | (simp; done)
  simp only [List.setIfInBounds_toArray, List.set_cons_zero, List.set_cons_succ]
  refine take_op 2 (v := .bool false) rfl (by kernel_rfl) (fun _ _ _ h => h) (by rfl) hS (fun w' hS' => ?ry2) ?rz2
  case ry2 =>
    clear hS'
    go_simp
    first | done | rfl | (simp; done)
  simp only [List.setIfInBounds_toArray, List.set_cons_zero, List.set_cons_succ]
  refine take_op 3 (v := ?rv3) rfl (by kernel_rfl) (fun _ _ _ h => h) (by rfl) hS (fun w' hS' => ?ry3) ?rz3
  case ry3 =>
    go_simp
    rfl
  simp only [List.setIfInBounds_toArray, List.set_cons_zero, List.set_cons_succ]
  refine take_op 4 (v := .bool false) rfl (by kernel_rfl) (fun _ _ _ h => h) (by rfl) hS (fun w' hS' => ?ry4) ?rz4
  case ry4 =>
    clear hS'
    go_simp
    first | done | rfl | (simp; done)
  simp only [List.setIfInBounds_toArray, List.set_cons_zero, List.set_cons_succ]
  refine take_op 5 (v := .bool false) rfl (by kernel_rfl) (fun _ _ _ h => h) (by rfl) hS (fun w' hS' => ?ry5) ?rz5
  case ry5 =>
    clear hS'
    go_simp
    first | done | rfl | (simp; done)
  simp only [List.setIfInBounds_toArray, List.set_cons_zero, List.set_cons_succ]
  refine take_op 6 (v := .bool false) rfl (by kernel_rfl) (fun _ _ _ h => h) (by rfl) hS (fun w' hS' => ?ry6) ?rz6
  case ry6 =>
    clear hS'
    go_simp
    first | done | rfl | (simp; done)
  simp only [List.setIfInBounds_toArray, List.set_cons_zero, List.set_cons_succ]
  refine take_op 7 (v := ?rv7) rfl (by kernel_rfl) (fun _ _ _ h => h) (by rfl) hS (fun w' hS' => ?ry7) ?rz7
  case ry7 =>
    go_simp
    rfl
  simp only [List.setIfInBounds_toArray, List.set_cons_zero, List.set_cons_succ]
  refine take_op 8 (v := .bool false) rfl (by kernel_rfl) (fun _ _ _ h => h) (by rfl) hS (fun w' hS' => ?ry8) ?rz8
  case ry8 =>
    clear hS'
    go_simp
    first | done | rfl | (simp; done)
  simp only [List.setIfInBounds_toArray, List.set_cons_zero, List.set_cons_succ]
  refine take_op 9 (v := .bool false) rfl (by kernel_rfl) (fun _ _ _ h => h) (by rfl) hS (fun w' hS' => ?ry9) ?rz9
  case ry9 =>
    clear hS'
    go_simp
    first | done | rfl | (simp; done)
  simp only [List.setIfInBounds_toArray, List.set_cons_zero, List.set_cons_succ]
  refine take_op 10 (v := .bool false) rfl (by kernel_rfl) (fun _ _ _ h => h) (by rfl) hS (fun w' hS' => ?ry10) ?rz10
  case ry10 =>
    clear hS'
    go_simp
    first | done | rfl | (simp; done)
  simp only [List.setIfInBounds_toArray, List.set_cons_zero, List.set_cons_succ]
  refine take_op 11 (v := ?rv11) rfl (by kernel_rfl) (fun _ _ _ h => h) (by rfl) hS (fun w' hS' => ?ry11) ?rz11
  case ry11 =>
    go_simp
    rfl
  simp only [List.setIfInBounds_toArray, List.set_cons_zero, List.set_cons_succ]
  refine take_op 12 (v := .bool false) rfl (by kernel_rfl) (fun _ _ _ h => h) (by rfl) hS (fun w' hS' => ?ry12) ?rz12
  case ry12 =>
    clear hS'
    go_simp
    first | done | rfl | (simp; done)
  simp only [List.setIfInBounds_toArray, List.set_cons_zero, List.set_cons_succ]
  refine take_op 13 (v := .bool false) rfl (by kernel_rfl) (fun _ _ _ h => h) (by rfl) hS (fun w' hS' => ?ry13) ?rz13
  case ry13 =>
    clear hS'
    go_simp
    first | done | rfl | (simp; done)
  simp only [List.setIfInBounds_toArray, List.set_cons_zero, List.set_cons_succ]
  refine take_op 14 (v := .bool false) rfl (by kernel_rfl) (fun _ _ _ h => h) (by rfl) hS (fun w' hS' => ?ry14) ?rz14
  case ry14 =>
    clear hS'
    go_simp
    first | done | rfl | (simp; done)
  simp only [List.setIfInBounds_toArray, List.set_cons_zero, List.set_cons_succ]
  refine take_op 15 (v := ?rv15) rfl (by kernel_rfl) (fun _ _ _ h => h) (by rfl) hS (fun w' hS' => ?ry15) ?rz15
  case ry15 =>
    have e0 := (kP.below hS' kP.lt).cell (i := 0) rfl
    have f0 := (kQ.below hS' kQ.lt).cell (i := 0) rfl
    have e1 := (kP.below hS' kP.lt).cell (i := 1) rfl
    have f1 := (kQ.below hS' kQ.lt).cell (i := 1) rfl
    have e2 := (kP.below hS' kP.lt).cell (i := 2) rfl
    have f2 := (kQ.below hS' kQ.lt).cell (i := 2) rfl
    clear hS'
    go_simp
    rfl
  simp only [List.setIfInBounds_toArray, List.set_cons_zero, List.set_cons_succ]
  refine step_op 16 (by kernel_rfl) rfl (fun K hK => ?_)
  rw [if_pos (by rfl)]
  go_simp
  have kx := Blk.new X0 3 #[.int .i64 87, .int .i64 42]
  obtain ⟨X1, hE⟩ : ∃ X, X0.alloc (.cells #[.int .i64 87, .int .i64 42] 3) = X := ⟨_, rfl⟩
  rw [hE] at kx ⊢
  obtain ⟨bkx, hbk⟩ : ∃ b, X0.heap.size = b := ⟨_, rfl⟩
  rw [hbk] at kx ⊢
  have hb : Below X0.heap.size X0 X1 := alloc_below hE
  have hS1 : Below V17.heap.size V17 X1 := hS.trans (hb.mono hS.size)
  clear hb hE hbk
  refine hK.out _ _ (fun h => hS1) ?_
  clear hK K
  try simp only [Act.put, List.setIfInBounds_toArray, List.set_cons_zero, List.set_cons_succ]
  refine step_op 17 (by kernel_rfl) rfl (fun K hK => ?_)
  rw [if_pos (by rfl)]
  go_simp
  refine (row8_any (some ⟨bkx, 0, none⟩) 2 2 X1).mono ?_
  rintro e X2 ⟨rfl, hb⟩
  replace kx := kx.below hb kx.lt
  have hS2 : Below V17.heap.size V17 X2 := hS1.trans (hb.mono hS1.size)
  clear hb
  refine hK.out _ _ (fun h => hS2) ?_
  clear hK K
  try simp only [Act.put, List.setIfInBounds_toArray, List.set_cons_zero, List.set_cons_succ]
  refine step_op 18 (by kernel_rfl) rfl (fun K hK => ?_)
  rw [if_pos (by rfl)]
  go_simp
  refine (Same_eq 2 1 pa (some ⟨bkx, 0, none⟩) pc 2 2 [87, 42] (Lib.hid rfl) X2 (by decide) (later_i rp hS2) (rd_litA kx rfl)).mono ?_
  rintro e X3 ⟨rfl, hb⟩
  have hS3 : Below V17.heap.size V17 X3 := hS2.trans (hb.mono hS2.size)
  clear hb
  refine hK.out _ _ (fun h => hS3) ?_
  clear hK K
  try simp only [Act.put, List.setIfInBounds_toArray, List.set_cons_zero, List.set_cons_succ]
  refine take_op 19 (v := .bool false) rfl (by kernel_rfl) (fun _ _ _ h => h) (by rfl) hS3 (fun w' hS' => ?ry19) ?rz19
  case ry19 =>
    clear hS'
    go_simp
    first | done | rfl | (simp; done)
  simp only [List.setIfInBounds_toArray, List.set_cons_zero, List.set_cons_succ]
  refine take_op 20 (v := .bool false) rfl (by kernel_rfl) (fun _ _ _ h => h) (by rfl) hS3 (fun w' hS' => ?ry20) ?rz20
  case ry20 =>
    clear hS'
    go_simp
    first | done | rfl | (simp; done)
  simp only [List.setIfInBounds_toArray, List.set_cons_zero, List.set_cons_succ]
  refine take_op 21 (v := .bool false) rfl (by kernel_rfl) (fun _ _ _ h => h) (by rfl) hS3 (fun w' hS' => ?ry21) ?rz21
  case ry21 =>
    clear hS'
    go_simp
    first | done | rfl | (simp; done)
  simp only [List.setIfInBounds_toArray, List.set_cons_zero, List.set_cons_succ]
  refine take_op 22 (v := ?rv22) rfl (by kernel_rfl) (fun _ _ _ h => h) (by rfl) hS3 (fun w' hS' => ?ry22) ?rz22
  case ry22 =>
    have e0 := (kP.below hS' kP.lt).cell (i := 0) rfl
    have f0 := (kQ.below hS' kQ.lt).cell (i := 0) rfl
    have e1 := (kP.below hS' kP.lt).cell (i := 1) rfl
    have f1 := (kQ.below hS' kQ.lt).cell (i := 1) rfl
    have e2 := (kP.below hS' kP.lt).cell (i := 2) rfl
    have f2 := (kQ.below hS' kQ.lt).cell (i := 2) rfl
    clear hS'
    go_simp
    rfl
  simp only [List.setIfInBounds_toArray, List.set_cons_zero, List.set_cons_succ]
  refine step_op 23 (by kernel_rfl) rfl (fun K hK => ?_)
  rw [if_pos (by rfl)]
  go_simp
  have ky := Blk.new X3 3 #[.int .i64 113, .int .i64 58]
  obtain ⟨X4, hE⟩ : ∃ X, X3.alloc (.cells #[.int .i64 113, .int .i64 58] 3) = X := ⟨_, rfl⟩
  rw [hE] at ky ⊢
  obtain ⟨bky, hbk⟩ : ∃ b, X3.heap.size = b := ⟨_, rfl⟩
  rw [hbk] at ky ⊢
  have hb : Below X3.heap.size X3 X4 := alloc_below hE
  have hS4 : Below V17.heap.size V17 X4 := hS3.trans (hb.mono hS3.size)
  clear hb hE hbk
  refine hK.out _ _ (fun h => hS4) ?_
  clear hK K
  try simp only [Act.put, List.setIfInBounds_toArray, List.set_cons_zero, List.set_cons_succ]
  refine step_op 24 (by kernel_rfl) rfl (fun K hK => ?_)
  rw [if_pos (by rfl)]
  go_simp
  refine (row8_any (some ⟨bky, 0, none⟩) 2 2 X4).mono ?_
  rintro e X5 ⟨rfl, hb⟩
  replace ky := ky.below hb ky.lt
  have hS5 : Below V17.heap.size V17 X5 := hS4.trans (hb.mono hS4.size)
  clear hb
  refine hK.out _ _ (fun h => hS5) ?_
  clear hK K
  try simp only [Act.put, List.setIfInBounds_toArray, List.set_cons_zero, List.set_cons_succ]
  refine step_op 25 (by kernel_rfl) rfl (fun K hK => ?_)
  rw [if_pos (by rfl)]
  go_simp
  refine (Same_eq 2 1 qa (some ⟨bky, 0, none⟩) qc 2 2 [113, 58] (Lib.hid rfl) X5 (by decide) (later_i rq hS5) (rd_litA ky rfl)).mono ?_
  rintro e X6 ⟨rfl, hb⟩
  have hS6 : Below V17.heap.size V17 X6 := hS5.trans (hb.mono hS5.size)
  clear hb
  refine hK.out _ _ (fun h => hS6) ?_
  clear hK K
  try simp only [Act.put, List.setIfInBounds_toArray, List.set_cons_zero, List.set_cons_succ]
  refine take_op 26 (v := .bool false) rfl (by kernel_rfl) (fun _ _ _ h => h) (by rfl) hS6 (fun w' hS' => ?ry26) ?rz26
  case ry26 =>
    clear hS'
    go_simp
    first | done | rfl | (simp; done)
  simp only [List.setIfInBounds_toArray, List.set_cons_zero, List.set_cons_succ]
  refine take_op 27 (v := .bool false) rfl (by kernel_rfl) (fun _ _ _ h => h) (by rfl) hS6 (fun w' hS' => ?ry27) ?rz27
  case ry27 =>
    clear hS'
    go_simp
    first | done | rfl | (simp; done)
  simp only [List.setIfInBounds_toArray, List.set_cons_zero, List.set_cons_succ]
  refine take_op 28 (v := .bool false) rfl (by kernel_rfl) (fun _ _ _ h => h) (by rfl) hS6 (fun w' hS' => ?ry28) ?rz28
  case ry28 =>
    clear hS'
    go_simp
    first | done | rfl | (simp; done)
  simp only [List.setIfInBounds_toArray, List.set_cons_zero, List.set_cons_succ]
  refine take_op 29 (v := ?rv29) rfl (by kernel_rfl) (fun _ _ _ h => h) (by rfl) hS6 (fun w' hS' => ?ry29) ?rz29
  case ry29 =>
    go_simp
    rfl
  simp only [List.setIfInBounds_toArray, List.set_cons_zero, List.set_cons_succ]
  refine take_op 30 (v := .bool false) rfl (by kernel_rfl) (fun _ _ _ h => h) (by rfl) hS6 (fun w' hS' => ?ry30) ?rz30
  case ry30 =>
    clear hS'
    go_simp
    first | done | rfl | (simp; done)
  simp only [List.setIfInBounds_toArray, List.set_cons_zero, List.set_cons_succ]
  refine take_op 31 (v := .bool false) rfl (by kernel_rfl) (fun _ _ _ h => h) (by rfl) hS6 (fun w' hS' => ?ry31) ?rz31
  case ry31 =>
    clear hS'
    go_simp
    first | done | rfl | (simp; done)
  simp only [List.setIfInBounds_toArray, List.set_cons_zero, List.set_cons_succ]
  refine take_op 32 (v := .bool false) rfl (by kernel_rfl) (fun _ _ _ h => h) (by rfl) hS6 (fun w' hS' => ?ry32) ?rz32
  case ry32 =>
    clear hS'
    go_simp
    first | done | rfl | (simp; done)
  simp only [List.setIfInBounds_toArray, List.set_cons_zero, List.set_cons_succ]
  refine take_op 33 (v := ?rv33) rfl (by kernel_rfl) (fun _ _ _ h => h) (by rfl) hS6 (fun w' hS' => ?ry33) ?rz33
  case ry33 =>
    go_simp
    rfl
  simp only [List.setIfInBounds_toArray, List.set_cons_zero, List.set_cons_succ]
  refine take_op 34 (v := .bool false) rfl (by kernel_rfl) (fun _ _ _ h => h) (by rfl) hS6 (fun w' hS' => ?ry34) ?rz34
  case ry34 =>
    clear hS'
    go_simp
    first | done | rfl | (simp; done)
  simp only [List.setIfInBounds_toArray, List.set_cons_zero, List.set_cons_succ]
  refine take_op 35 (v := .bool false) rfl (by kernel_rfl) (fun _ _ _ h => h) (by rfl) hS6 (fun w' hS' => ?ry35) ?rz35
  case ry35 =>
    clear hS'
    go_simp
    first | done | rfl | (simp; done)
  simp only [List.setIfInBounds_toArray, List.set_cons_zero, List.set_cons_succ]
  refine take_op 36 (v := .bool false) rfl (by kernel_rfl) (fun _ _ _ h => h) (by rfl) hS6 (fun w' hS' => ?ry36) ?rz36
  case ry36 =>
    clear hS'
    go_simp
    first | done | rfl | (simp; done)
  simp only [List.setIfInBounds_toArray, List.set_cons_zero, List.set_cons_succ]
  refine take_op 37 (v := ?rv37) rfl (by kernel_rfl) (fun _ _ _ h => h) (by rfl) hS6 (fun w' hS' => ?ry37) ?rz37
  case ry37 =>
    go_simp
    rfl
  simp only [List.setIfInBounds_toArray, List.set_cons_zero, List.set_cons_succ]
  refine take_op 38 (v := .bool false) rfl (by kernel_rfl) (fun _ _ _ h => h) (by rfl) hS6 (fun w' hS' => ?ry38) ?rz38
  case ry38 =>
    clear hS'
    go_simp
    first | done | rfl | (simp; done)
  simp only [List.setIfInBounds_toArray, List.set_cons_zero, List.set_cons_succ]
  refine take_op 39 (v := .bool false) rfl (by kernel_rfl) (fun _ _ _ h => h) (by rfl) hS6 (fun w' hS' => ?ry39) ?rz39
  case ry39 =>
    clear hS'
    go_simp
    first | done | rfl | (simp; done)
  simp only [List.setIfInBounds_toArray, List.set_cons_zero, List.set_cons_succ]
  refine take_op 40 (v := .bool false) rfl (by kernel_rfl) (fun _ _ _ h => h) (by rfl) hS6 (fun w' hS' => ?ry40) ?rz40
  case ry40 =>
    clear hS'
    go_simp
    first | done | rfl | (simp; done)
  simp only [List.setIfInBounds_toArray, List.set_cons_zero, List.set_cons_succ]
  refine take_op 41 (v := ?rv41) rfl (by kernel_rfl) (fun _ _ _ h => h) (by rfl) hS6 (fun w' hS' => ?ry41) ?rz41
  case ry41 =>
    go_simp
    rfl
  simp only [List.setIfInBounds_toArray, List.set_cons_zero, List.set_cons_succ]
  refine take_op 42 (v := .bool false) rfl (by kernel_rfl) (fun _ _ _ h => h) (by rfl) hS6 (fun w' hS' => ?ry42) ?rz42
  case ry42 =>
    clear hS'
    go_simp
    first | done | rfl | (simp; done)
  simp only [List.setIfInBounds_toArray, List.set_cons_zero, List.set_cons_succ]
  refine take_op 43 (v := .bool false) rfl (by kernel_rfl) (fun _ _ _ h => h) (by rfl) hS6 (fun w' hS' => ?ry43) ?rz43
  case ry43 =>
    clear hS'
    go_simp
    first | done | rfl | (simp; done)
  simp only [List.setIfInBounds_toArray, List.set_cons_zero, List.set_cons_succ]
  refine take_op 44 (v := .bool false) rfl (by kernel_rfl) (fun _ _ _ h => h) (by rfl) hS6 (fun w' hS' => ?ry44) ?rz44
  case ry44 =>
    clear hS'
    go_simp
    first | done | rfl | (simp; done)
  simp only [List.setIfInBounds_toArray, List.set_cons_zero, List.set_cons_succ]
  refine take_op 45 (v := ?rv45) rfl (by kernel_rfl) (fun _ _ _ h => h) (by rfl) hS6 (fun w' hS' => ?ry45) ?rz45
  case ry45 =>
    go_simp
    rfl
  simp only [List.setIfInBounds_toArray, List.set_cons_zero, List.set_cons_succ]
  refine take_op 46 (v := .bool false) rfl (by kernel_rfl) (fun _ _ _ h => h) (by rfl) hS6 (fun w' hS' => ?ry46) ?rz46
  case ry46 =>
    clear hS'
    go_simp
    first | done | rfl | (simp; done)
  simp only [List.setIfInBounds_toArray, List.set_cons_zero, List.set_cons_succ]
  refine take_op 47 (v := .bool false) rfl (by kernel_rfl) (fun _ _ _ h => h) (by rfl) hS6 (fun w' hS' => ?ry47) ?rz47
  case ry47 =>
    clear hS'
    go_simp
    first | done | rfl | (simp; done)
  simp only [List.setIfInBounds_toArray, List.set_cons_zero, List.set_cons_succ]
  refine done_ops (by kernel_rfl) ?_
  replace hB := hB.trans (hS6.mono hB.size)
  clear hS hS1 hS2 hS3 hS4 hS5 hS6 kx ky kP kQ rp rq
  go_wp2_with fail
  have hc := Bound_any 10 0 1 20 (by decide) (by decide) X6
  rw [show boundS 10 0 1 20 = (67, 0) from by kernel_rfl] at hc
  refine hc.mono ?_
  clear hc
  rintro e V18 ⟨rfl, hb⟩
  replace hB := hB.trans (hb.mono hB.size)
  clear hb
  have hbV19 : Below V18.heap.size V18 (V18.alloc (.cells #[.int .u8 1, .int .u8 1, .int .u8 2] 5)) := jb_al (Below.refl _ V18) _
  have kr0 := Blk.new V18 5 #[.int .u8 1, .int .u8 1, .int .u8 2]
  obtain ⟨V19, hEV19⟩ : ∃ X, V18.alloc (.cells #[.int .u8 1, .int .u8 1, .int .u8 2] 5) = X := ⟨_, rfl⟩
  rw [hEV19] at hbV19 kr0
  replace hB := hB.trans (hbV19.mono hB.size)
  clear hbV19
  have hbV20 : Below V19.heap.size V19 (V19.alloc (.cells #[.int .u8 1, .int .u8 1, .int .u8 2] 5)) := jb_al (Below.refl _ V19) _
  have kr1 := Blk.new V19 5 #[.int .u8 1, .int .u8 1, .int .u8 2]
  obtain ⟨V20, hEV20⟩ : ∃ X, V19.alloc (.cells #[.int .u8 1, .int .u8 1, .int .u8 2] 5) = X := ⟨_, rfl⟩
  rw [hEV20] at hbV20 kr1
  replace kr0 := kr0.below hbV20 kr0.lt
  replace hB := hB.trans (hbV20.mono hB.size)
  clear hbV20
  have hbV21 : Below V20.heap.size V20 (V20.alloc (.cells #[.int .u8 2, .int .u8 1, .int .u8 0] 5)) := jb_al (Below.refl _ V20) _
  have kr2 := Blk.new V20 5 #[.int .u8 2, .int .u8 1, .int .u8 0]
  obtain ⟨V21, hEV21⟩ : ∃ X, V20.alloc (.cells #[.int .u8 2, .int .u8 1, .int .u8 0] 5) = X := ⟨_, rfl⟩
  rw [hEV21] at hbV21 kr2
  replace kr0 := kr0.below hbV21 kr0.lt
  replace kr1 := kr1.below hbV21 kr1.lt
  replace hB := hB.trans (hbV21.mono hB.size)
  clear hbV21
  have hbV22 : Below V21.heap.size V21 (V21.alloc (.cells #[.slice (some ⟨V18.heap.size, 0, none⟩) 3 3, .slice (some ⟨V19.heap.size, 0, none⟩) 3 3, .slice (some ⟨V20.heap.size, 0, none⟩) 3 3] 28)) := jb_al (Below.refl _ V21) _
  have kLL := Blk.new V21 28 #[.slice (some ⟨V18.heap.size, 0, none⟩) 3 3, .slice (some ⟨V19.heap.size, 0, none⟩) 3 3, .slice (some ⟨V20.heap.size, 0, none⟩) 3 3]
  obtain ⟨V22, hEV22⟩ : ∃ X, V21.alloc (.cells #[.slice (some ⟨V18.heap.size, 0, none⟩) 3 3, .slice (some ⟨V19.heap.size, 0, none⟩) 3 3, .slice (some ⟨V20.heap.size, 0, none⟩) 3 3] 28) = X := ⟨_, rfl⟩
  rw [hEV22] at hbV22 kLL
  replace kr0 := kr0.below hbV22 kr0.lt
  replace kr1 := kr1.below hbV22 kr1.lt
  replace kr2 := kr2.below hbV22 kr2.lt
  replace hB := hB.trans (hbV22.mono hB.size)
  clear hbV22
  have rL : RdL V22.heap.size V22 (some ⟨V21.heap.size, 0, none⟩) [[1, 1, 2], [1, 1, 2], [2, 1, 0]] := .inr ⟨_, 0, rfl, kLL.lt, fun i xs hi => by
    match i, hi with
    | 0, hi => cases hi; exact ⟨_, _, kLL.cell (i := 0) rfl, rdn_litA kr0 rfl⟩
    | 1, hi => cases hi; exact ⟨_, _, kLL.cell (i := 1) rfl, rdn_litA kr1 rfl⟩
    | 2, hi => cases hi; exact ⟨_, _, kLL.cell (i := 2) rfl, rdn_litA kr2 rfl⟩
    | _ + 3, hi => simp at hi⟩
  go_wp2_with fail
  clear hEV19 hEV20 hEV21 hEV22
  have hc := Reconcile_any [[1, 1, 2], [1, 1, 2], [2, 1, 0]] 3 rfl (some ⟨V21.heap.size, 0, none⟩) 3 V22 rL
  unfold RetJ at hc
  rw [show recJ [[1, 1, 2], [1, 1, 2], [2, 1, 0]] = ([1, 1, 2], [3, 3, 0], 0) from by kernel_rfl] at hc
  simp only [List.length_cons, List.length_nil, Nat.reduceAdd] at hc
  clear rL
  refine hc.mono ?_
  clear hc
  rintro e V23 ⟨xa, xc, ya, yc, rfl, rx, ry, hb⟩
  replace kr0 := kr0.below hb kr0.lt
  replace kr1 := kr1.below hb kr1.lt
  replace kr2 := kr2.below hb kr2.lt
  replace kLL := kLL.below hb kLL.lt
  replace hB := hB.trans (hb.mono hB.size)
  clear hb
  clear kr0 kr1 kr2 kLL
  go_wp2_with fail
  have hc := quarter8_any V23
  refine hc.mono ?_
  clear hc
  rintro e V24 ⟨rfl, hb⟩
  replace rx := rx.later hb
  replace ry := later_i ry hb
  replace hB := hB.trans (hb.mono hB.size)
  clear hb
  have hbV25 : Below V24.heap.size V24 (V24.alloc (.cells #[.int .i64 64, .int .i64 128, .int .i64 1, .int .i64 4] 67)) := jb_al (Below.refl _ V24) _
  have kT := Blk.new V24 67 #[.int .i64 64, .int .i64 128, .int .i64 1, .int .i64 4]
  obtain ⟨V25, hEV25⟩ : ∃ X, V24.alloc (.cells #[.int .i64 64, .int .i64 128, .int .i64 1, .int .i64 4] 67) = X := ⟨_, rfl⟩
  rw [hEV25] at hbV25 kT
  replace rx := rx.later hbV25
  replace ry := later_i ry hbV25
  replace hB := hB.trans (hbV25.mono hB.size)
  clear hbV25
  go_upto_region 10 with fail
  clear hEV25
  go_cut [8, 16] (fun s8 s16 wx => ∃ bd : Nat, s16 = .pointer (some ⟨bd, 0, none⟩) ∧ s8 = .int .i64 0 ∧ Blk wx bd 70 #[.int .i64 1, .int .i64 1, .bool false] ∧ Below V25.heap.size V25 wx)
  case first =>
    have hS : Below V25.heap.size V25 V25.drew := (Below.refl _ _).drew
    refine plain_region (fun W' => Below V25.heap.size V25 W') 9 9 (by kernel_rfl) rfl ?_
    simp only [Array.replicate_succ, Array.replicate_zero, List.push_toArray, List.nil_append, List.cons_append]
    obtain ⟨Xz, hXz⟩ : ∃ X, V25.drew = X := ⟨_, rfl⟩
    rw [hXz] at hS ⊢
    clear hXz
    refine take_op 0 (v := ?z1v) rfl (by kernel_rfl) (fun _ _ _ h => h) (by rfl) hS (fun w' hS' => ?z1y) ?z1z
    case z1y =>
      have c0 := (kT.below hS' kT.lt).cell (i := 0) rfl
      have c1 := (kT.below hS' kT.lt).cell (i := 1) rfl
      have c2 := (kT.below hS' kT.lt).cell (i := 2) rfl
      have c3 := (kT.below hS' kT.lt).cell (i := 3) rfl
      clear hS'
      go_simp
      rfl
    simp only [List.setIfInBounds_toArray, List.set_cons_zero, List.set_cons_succ]
    refine fork2 (i := 1) (j := 6) (by kernel_rfl) ?_ ?_
    · refine step_at 1 rfl (fun K hK => ?_)
      rw [if_pos (by rfl)]
      go_simp
      refine (Start_any Xz).mono ?_
      rintro e X1 ⟨rfl, hb⟩
      have hS1 : Below V25.heap.size V25 X1 := hS.trans (hb.mono hS.size)
      clear hb
      refine hK.out _ _ (fun h => hS1) ?_
      clear hK K
      try simp only [Act.put, List.setIfInBounds_toArray, List.set_cons_zero, List.set_cons_succ]
      refine fork2 (i := 2) (j := 6) (by kernel_rfl) ?_ ?_
      · refine step_at 2 rfl (fun K hK => ?_)
        rw [if_pos (by rfl)]
        go_simp
        have hc := Take_any 64 128 1 4 0 0 false true (by decide) (by decide) X1
        rw [show takeS 64 128 1 4 0 0 false true = ((1, 1, false), 0) from by kernel_rfl] at hc
        refine hc.mono ?_
        clear hc
        rintro e X2 ⟨rfl, hb⟩
        have hS2 : Below V25.heap.size V25 X2 := hS1.trans (hb.mono hS1.size)
        clear hb
        refine hK.out _ _ (fun h => hS2) ?_
        clear hK K
        try simp only [Act.put, List.setIfInBounds_toArray, List.set_cons_zero, List.set_cons_succ]
        refine take_op 3 (v := ?z2v) rfl (by kernel_rfl) (fun _ _ _ h => h) (by rfl) hS2 (fun w' hS' => ?z2y) ?z2z
        case z2y =>
          go_simp
          rfl
        simp only [List.setIfInBounds_toArray, List.set_cons_zero, List.set_cons_succ]
        refine take_op 4 (v := ?z3v) rfl (by kernel_rfl) (fun _ _ _ h => h) (by rfl) hS2 (fun w' hS' => ?z3y) ?z3z
        case z3y =>
          go_simp
          rfl
        simp only [List.setIfInBounds_toArray, List.set_cons_zero, List.set_cons_succ]
        refine take_op 5 (v := ?z4v) rfl (by kernel_rfl) (fun _ _ _ h => h) (by rfl) hS2 (fun w' hS' => ?z4y) ?z4z
        case z4y =>
          go_simp
          rfl
        simp only [List.setIfInBounds_toArray, List.set_cons_zero, List.set_cons_succ]
        refine step_op 6 (by kernel_rfl) rfl (fun K hK => ?_)
        rw [if_pos (by rfl)]
        go_simp
        have kd := Blk.new X2 70 #[.int .i64 0, .int .i64 0, .bool false]
        obtain ⟨bd, hbd⟩ : ∃ b, X2.heap.size = b := ⟨_, rfl⟩
        have hbdW : V25.heap.size ≤ bd := by have := hS2.size; omega
        obtain ⟨X6, hX6⟩ : ∃ X, X2.alloc (.cells #[.int .i64 0, .int .i64 0, .bool false] 70) = X := ⟨_, rfl⟩
        have hS6 : Below V25.heap.size V25 X6 := hX6 ▸ jb_al hS2 _
        rw [hX6] at kd ⊢
        rw [hbd] at kd ⊢
        clear hX6 hbd
        refine hK.out _ _ (fun h => hS6) ?_
        clear hK K
        try simp only [Act.put, List.setIfInBounds_toArray, List.set_cons_zero, List.set_cons_succ]
        refine step_op 7 (by kernel_rfl) rfl (fun K hK => ?_)
        have o0 := kd.cell (i := 0) rfl
        have o1 := kd.cell (i := 1) rfl
        have o2 := kd.cell (i := 2) rfl
        have fo0 := kd.frozen 0
        have fo1 := kd.frozen 1
        have fo2 := kd.frozen 2
        rw [if_pos (by rfl)]
        go_simp
        have hS7 := hS6.trans (put3_below hbdW (.int .i64 1) (.int .i64 1) (.bool false))
        refine hK.out _ _ (fun h => hS7) ?_
        clear hK K
        try simp only [Act.put, List.setIfInBounds_toArray, List.set_cons_zero, List.set_cons_succ]
        refine take_op 8 (v := ?z5v) rfl (by kernel_rfl) (fun _ _ _ h => h) (by rfl) hS7 (fun w' hS' => ?z5y) ?z5z
        case z5y =>
          go_simp
          rfl
        simp only [List.setIfInBounds_toArray, List.set_cons_zero, List.set_cons_succ]
        refine done_ops (by kernel_rfl) ?_
        go_wp2_with fail
        go_meet
        exact ⟨bd, rfl, rfl, put3_blk kd _ _ _, hS7⟩
      · refine step_at 6 rfl (fun K hK => ?_)
        rw [if_pos (by rfl)]
        go_simp
        have kd := Blk.new X1 70 #[.int .i64 0, .int .i64 0, .bool false]
        obtain ⟨bd, hbd⟩ : ∃ b, X1.heap.size = b := ⟨_, rfl⟩
        have hbdW : V25.heap.size ≤ bd := by have := hS1.size; omega
        obtain ⟨X6, hX6⟩ : ∃ X, X1.alloc (.cells #[.int .i64 0, .int .i64 0, .bool false] 70) = X := ⟨_, rfl⟩
        have hS6 : Below V25.heap.size V25 X6 := hX6 ▸ jb_al hS1 _
        rw [hX6] at kd ⊢
        rw [hbd] at kd ⊢
        clear hX6 hbd
        refine hK.out _ _ (fun h => hS6) ?_
        clear hK K
        try simp only [Act.put, List.setIfInBounds_toArray, List.set_cons_zero, List.set_cons_succ]
        refine step_op 2 (by kernel_rfl) rfl (fun K hK => ?_)
        rw [if_pos (by rfl)]
        go_simp
        have hc := Take_any 64 128 1 4 0 0 false true (by decide) (by decide) X6
        rw [show takeS 64 128 1 4 0 0 false true = ((1, 1, false), 0) from by kernel_rfl] at hc
        refine hc.mono ?_
        clear hc
        rintro e X2 ⟨rfl, hb⟩
        replace kd := kd.below hb kd.lt
        have hS2 : Below V25.heap.size V25 X2 := hS6.trans (hb.mono hS6.size)
        clear hb
        refine hK.out _ _ (fun h => hS2) ?_
        clear hK K
        try simp only [Act.put, List.setIfInBounds_toArray, List.set_cons_zero, List.set_cons_succ]
        refine take_op 3 (v := ?z6v) rfl (by kernel_rfl) (fun _ _ _ h => h) (by rfl) hS2 (fun w' hS' => ?z6y) ?z6z
        case z6y =>
          go_simp
          rfl
        simp only [List.setIfInBounds_toArray, List.set_cons_zero, List.set_cons_succ]
        refine take_op 4 (v := ?z7v) rfl (by kernel_rfl) (fun _ _ _ h => h) (by rfl) hS2 (fun w' hS' => ?z7y) ?z7z
        case z7y =>
          go_simp
          rfl
        simp only [List.setIfInBounds_toArray, List.set_cons_zero, List.set_cons_succ]
        refine take_op 5 (v := ?z8v) rfl (by kernel_rfl) (fun _ _ _ h => h) (by rfl) hS2 (fun w' hS' => ?z8y) ?z8z
        case z8y =>
          go_simp
          rfl
        simp only [List.setIfInBounds_toArray, List.set_cons_zero, List.set_cons_succ]
        refine step_op 7 (by kernel_rfl) rfl (fun K hK => ?_)
        have o0 := kd.cell (i := 0) rfl
        have o1 := kd.cell (i := 1) rfl
        have o2 := kd.cell (i := 2) rfl
        have fo0 := kd.frozen 0
        have fo1 := kd.frozen 1
        have fo2 := kd.frozen 2
        rw [if_pos (by rfl)]
        go_simp
        have hS7 := hS2.trans (put3_below hbdW (.int .i64 1) (.int .i64 1) (.bool false))
        refine hK.out _ _ (fun h => hS7) ?_
        clear hK K
        try simp only [Act.put, List.setIfInBounds_toArray, List.set_cons_zero, List.set_cons_succ]
        refine take_op 8 (v := ?z9v) rfl (by kernel_rfl) (fun _ _ _ h => h) (by rfl) hS7 (fun w' hS' => ?z9y) ?z9z
        case z9y =>
          go_simp
          rfl
        simp only [List.setIfInBounds_toArray, List.set_cons_zero, List.set_cons_succ]
        refine done_ops (by kernel_rfl) ?_
        go_wp2_with fail
        go_meet
        exact ⟨bd, rfl, rfl, put3_blk kd _ _ _, hS7⟩
    · refine step_at 6 rfl (fun K hK => ?_)
      rw [if_pos (by rfl)]
      go_simp
      have kd := Blk.new Xz 70 #[.int .i64 0, .int .i64 0, .bool false]
      obtain ⟨bd, hbd⟩ : ∃ b, Xz.heap.size = b := ⟨_, rfl⟩
      have hbdW : V25.heap.size ≤ bd := by have := hS.size; omega
      obtain ⟨X6, hX6⟩ : ∃ X, Xz.alloc (.cells #[.int .i64 0, .int .i64 0, .bool false] 70) = X := ⟨_, rfl⟩
      have hS6 : Below V25.heap.size V25 X6 := hX6 ▸ jb_al hS _
      rw [hX6] at kd ⊢
      rw [hbd] at kd ⊢
      clear hX6 hbd
      refine hK.out _ _ (fun h => hS6) ?_
      clear hK K
      try simp only [Act.put, List.setIfInBounds_toArray, List.set_cons_zero, List.set_cons_succ]
      refine step_op 1 (by kernel_rfl) rfl (fun K hK => ?_)
      rw [if_pos (by rfl)]
      go_simp
      refine (Start_any X6).mono ?_
      rintro e X1 ⟨rfl, hb⟩
      replace kd := kd.below hb kd.lt
      have hS1 : Below V25.heap.size V25 X1 := hS6.trans (hb.mono hS6.size)
      clear hb
      refine hK.out _ _ (fun h => hS1) ?_
      clear hK K
      try simp only [Act.put, List.setIfInBounds_toArray, List.set_cons_zero, List.set_cons_succ]
      refine step_op 2 (by kernel_rfl) rfl (fun K hK => ?_)
      rw [if_pos (by rfl)]
      go_simp
      have hc := Take_any 64 128 1 4 0 0 false true (by decide) (by decide) X1
      rw [show takeS 64 128 1 4 0 0 false true = ((1, 1, false), 0) from by kernel_rfl] at hc
      refine hc.mono ?_
      clear hc
      rintro e X2 ⟨rfl, hb⟩
      replace kd := kd.below hb kd.lt
      have hS2 : Below V25.heap.size V25 X2 := hS1.trans (hb.mono hS1.size)
      clear hb
      refine hK.out _ _ (fun h => hS2) ?_
      clear hK K
      try simp only [Act.put, List.setIfInBounds_toArray, List.set_cons_zero, List.set_cons_succ]
      refine take_op 3 (v := ?z10v) rfl (by kernel_rfl) (fun _ _ _ h => h) (by rfl) hS2 (fun w' hS' => ?z10y) ?z10z
      case z10y =>
        go_simp
        rfl
      simp only [List.setIfInBounds_toArray, List.set_cons_zero, List.set_cons_succ]
      refine take_op 4 (v := ?z11v) rfl (by kernel_rfl) (fun _ _ _ h => h) (by rfl) hS2 (fun w' hS' => ?z11y) ?z11z
      case z11y =>
        go_simp
        rfl
      simp only [List.setIfInBounds_toArray, List.set_cons_zero, List.set_cons_succ]
      refine take_op 5 (v := ?z12v) rfl (by kernel_rfl) (fun _ _ _ h => h) (by rfl) hS2 (fun w' hS' => ?z12y) ?z12z
      case z12y =>
        go_simp
        rfl
      simp only [List.setIfInBounds_toArray, List.set_cons_zero, List.set_cons_succ]
      refine step_op 7 (by kernel_rfl) rfl (fun K hK => ?_)
      have o0 := kd.cell (i := 0) rfl
      have o1 := kd.cell (i := 1) rfl
      have o2 := kd.cell (i := 2) rfl
      have fo0 := kd.frozen 0
      have fo1 := kd.frozen 1
      have fo2 := kd.frozen 2
      rw [if_pos (by rfl)]
      go_simp
      have hS7 := hS2.trans (put3_below hbdW (.int .i64 1) (.int .i64 1) (.bool false))
      refine hK.out _ _ (fun h => hS7) ?_
      clear hK K
      try simp only [Act.put, List.setIfInBounds_toArray, List.set_cons_zero, List.set_cons_succ]
      refine take_op 8 (v := ?z13v) rfl (by kernel_rfl) (fun _ _ _ h => h) (by rfl) hS7 (fun w' hS' => ?z13y) ?z13z
      case z13y =>
        go_simp
        rfl
      simp only [List.setIfInBounds_toArray, List.set_cons_zero, List.set_cons_succ]
      refine done_ops (by kernel_rfl) ?_
      go_wp2_with fail
      go_meet
      exact ⟨bd, rfl, rfl, put3_blk kd _ _ _, hS7⟩
  case rest =>
  obtain ⟨bd, rfl, rfl, kd, hb⟩ := hcut
  replace kT := kT.below hb kT.lt
  replace rx := rx.later hb
  replace ry := later_i ry hb
  replace hB := hB.trans (hb.mono hB.size)
  clear hb
  have c0 := kT.cell (i := 0) rfl
  have c1 := kT.cell (i := 1) rfl
  have c2 := kT.cell (i := 2) rfl
  have c3 := kT.cell (i := 3) rfl
  have d0 := kd.cell (i := 0) rfl
  have d1 := kd.cell (i := 1) rfl
  have d2 := kd.cell (i := 2) rfl
  go_wp2_with fail
  have hc := Take_any 64 128 1 4 1 1 false true (by decide) (by decide) wc
  rw [show takeS 64 128 1 4 1 1 false true = ((2, 2, true), 0) from by kernel_rfl] at hc
  refine hc.mono ?_
  clear hc
  rintro e V26 ⟨rfl, hb⟩
  replace kT := kT.below hb kT.lt
  replace kd := kd.below hb kd.lt
  replace rx := rx.later hb
  replace ry := later_i ry hb
  replace hB := hB.trans (hb.mono hB.size)
  clear hb
  clear c0 c1 c2 c3 d0 d1 d2
  clear kT
  have hbV27 : Below V26.heap.size V26 (V26.alloc (.cells #[.int .i64 2, .int .i64 2, .bool true] 70)) := jb_al (Below.refl _ V26) _
  have kk := Blk.new V26 70 #[.int .i64 2, .int .i64 2, .bool true]
  obtain ⟨V27, hEV27⟩ : ∃ X, V26.alloc (.cells #[.int .i64 2, .int .i64 2, .bool true] 70) = X := ⟨_, rfl⟩
  rw [hEV27] at hbV27 kk
  replace kd := kd.below hbV27 kd.lt
  replace rx := rx.later hbV27
  replace ry := later_i ry hbV27
  replace hB := hB.trans (hbV27.mono hB.size)
  clear hbV27
  have d0 := kd.cell (i := 0) rfl
  have d1 := kd.cell (i := 1) rfl
  have d2 := kd.cell (i := 2) rfl
  have g0 := kk.cell (i := 0) rfl
  have g1 := kk.cell (i := 1) rfl
  have g2 := kk.cell (i := 2) rfl
  have cv := conv_bytes xc (n := 3) rfl rx
  rw [show bsN [1, 1, 2] = { data := #[1, 1, 2] } from by kernel_rfl] at cv
  have hbV28 : Below V27.heap.size V27 (V27.alloc (.cells #[.int .i64 3, .int .i64 3, .int .i64 0] 3)) := jb_al (Below.refl _ V27) _
  have k3 := Blk.new V27 3 #[.int .i64 3, .int .i64 3, .int .i64 0]
  obtain ⟨V28, hEV28⟩ : ∃ X, V27.alloc (.cells #[.int .i64 3, .int .i64 3, .int .i64 0] 3) = X := ⟨_, rfl⟩
  rw [hEV28] at hbV28 k3
  replace kd := kd.below hbV28 kd.lt
  replace kk := kk.below hbV28 kk.lt
  replace rx := rx.later hbV28
  replace ry := later_i ry hbV28
  replace hB := hB.trans (hbV28.mono hB.size)
  clear hbV28
  have d0' := kd.cell (i := 0) rfl
  have d1' := kd.cell (i := 1) rfl
  have d2' := kd.cell (i := 2) rfl
  have g0' := kk.cell (i := 0) rfl
  have g1' := kk.cell (i := 1) rfl
  have g2' := kk.cell (i := 2) rfl
  go_wp2_with fail
  clear hEV27 hEV28 cv d0 d1 d2 g0 g1 g2 d0' d1' d2' g0' g1' g2'
  have hc := SameInts_eq ya (some ⟨V27.heap.size, 0, none⟩) yc 3 3 [3, 3, 0] (Lib.hid rfl) V28 (by decide) ry (rd_litA k3 rfl)
  refine hc.mono ?_
  clear hc
  rintro e V29 ⟨rfl, hb⟩
  replace kd := kd.below hb kd.lt
  replace kk := kk.below hb kk.lt
  replace rx := rx.later hb
  replace ry := later_i ry hb
  replace hB := hB.trans (hb.mono hB.size)
  clear hb
  have d0 := kd.cell (i := 0) rfl
  have d1 := kd.cell (i := 1) rfl
  have d2 := kd.cell (i := 2) rfl
  have g0 := kk.cell (i := 0) rfl
  have g1 := kk.cell (i := 1) rfl
  have g2 := kk.cell (i := 2) rfl
  go_wp2_with fail
  go_ret
  exact ⟨rfl, hB⟩

end Go.Proofs.YtbfigbpjoaccdaaGreat

namespace Go.Proofs.YtbfigbpjoaccdaaGreat
open Go Go.ChangeShapes Go.WideShapes Go.ChangeAt Go.RowKit Go.Joins Go.Deep
set_option linter.unusedVariables false
set_option linter.unusedSimpArgs false
set_option maxRecDepth 100000

section
variable {H : Type} {enc : TypeId × Value → H}

/-- A slice of bytes as a parameter. -/
theorem open_bytes {W : World} {base : Nat} {v : Value} {d : DataW H} {p : List MemPlace} (hv : Value.okWide Tryz.prog W .any base 28 v) (h : DataW.Trod enc Tryz.prog W 0 (fun _ => true) true 28 v d p) (hwt : ∀ n ∈ d.weights Tryz.prog 28, n ≤ reachBytes) :
    ∃ (a : Option Addr) (n c : Nat) (xs : List Nat), v = .slice a n c ∧ Hid (xs.length = n) ∧ RdN W.heap.size W a xs ∧ n ≤ 140737488355328 ∧ (∀ x ∈ xs, x < 256) := by
  obtain ⟨a, l, c, rfl⟩ := okWide_slice Tryz.underlying28 hv
  obtain ⟨fuel, hf⟩ := trod_of h
  rcases open_ints Tryz.underlying28 Tryz.underlying5 (by kernel_rfl) hf with ⟨h1, h2⟩ | ⟨a', len, cap, zs, h1, _, hl, hm, hz, hx, hc, hwf⟩
  · simp only [List.cons.injEq, and_true] at h1
    cases h1
    exact ⟨none, 0, 0, [], rfl, Lib.hid rfl, .inl rfl, by decide, by simp⟩
  · obtain ⟨rfl, rfl, rfl⟩ : some a' = a ∧ len = l ∧ cap = c := by
      simp only [List.cons.injEq, and_true, Value.slice.injEq] at h1
      exact ⟨h1.1.symm, h1.2.1.symm, h1.2.2.symm⟩
    simp only [if_true] at hz
    refine ⟨some a', len, cap, (zs.take len).map Int.toNat, rfl, Lib.hid (by simp; omega), ?_, ?_, fun x hx => ?_⟩
    · by_cases h0 : 0 < zs.length
      · obtain ⟨b, off, rfl, hcb⟩ := ints_at hc h0
        refine .inr ⟨b, off, rfl, World.block_lt_of_cell? W _ (hcb 0 h0), fun i hi => ?_⟩
        simp only [List.length_map, List.length_take] at hi
        rw [hcb i (by omega)]
        rw [bytes_of (zs.take len) (fun z hz' => hwf z (List.mem_of_mem_take hz')) (by simp; omega)]
        simp only [List.getElem?_take, List.getD]
        rw [if_pos (by omega)]
      · left
        simp; omega
    · simp only [Prod.mk.injEq] at hx
      obtain ⟨rfl, _⟩ := hx
      have := hwt ((lits (H := H) .u8 (zs.take len)).length * 1 + (lits (H := H) .u8 (zs.drop len)).length * 1) (by
        simp only [DataW.weights, Tryz.underlying28]
        rw [show Tryz.prog.bytesOf 5 = 1 from by kernel_rfl, Nat.add_mul]
        exact List.mem_cons_self)
      simp only [lits, List.length_map, List.length_take] at this
      unfold reachBytes at this
      omega
    · obtain ⟨z, hz', rfl⟩ := List.mem_map.1 hx
      have h1 := hwf z (List.mem_of_mem_take hz')
      have h2 : 0 ≤ z ∧ z ≤ 255 := by simpa [Lit.wf, IntKind.min, IntKind.max, IntKind.signed, IntKind.bits] using h1
      omega
end
end Go.Proofs.YtbfigbpjoaccdaaGreat
