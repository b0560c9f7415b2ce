/- The walk of the law ImagePoints: it returns true, and nothing that lay has turned. -/
import Derived.Test.YtjglfeonoiljlaaImgL
import Derived.Test.YtjglfeonoiljlaaFork
import Derived.Test.YtjglfeonoiljlaaLawWarps
namespace Go.Proofs.Ytjglfeonoiljlaa
open Go Go.RowKit Go.Shelf
set_option linter.unusedVariables false
set_option linter.unusedSimpArgs false

set_option maxRecDepth 100000 in
set_option maxHeartbeats 16000000 in
theorem law_points (iw ih : Int) (a : Option Addr) (c n : Nat) (xs : List Int) (hn : Hid (xs.length = n)) (jw jh : Int) (a' : Option Addr) (c' n' : Nat) (ys : List Int) (hn' : Hid (ys.length = n')) (p : PointN) (how : Int) (hw1 : 0 ≤ how) (hw2 : how ≤ 255) (w : World)
    (hm : n * 8 ≤ 140737488355328) (hr : Rd w.heap.size w a xs) (hnil : Hid (a = none → n = 0 ∧ c = 0)) (hm' : n' * 8 ≤ 140737488355328) (hr' : Rd w.heap.size w a' ys) (hnil' : Hid (a' = none → n' = 0 ∧ c' = 0)) :
    Calls Try.prog 6 #[imv iw ih a n c, imv jw jh a' n' c', p.val, .int .u8 how] w fun e w' => e = .returned (.bool true) ∧ Below w.heap.size w w' := by
  obtain ⟨⟨q1w, q1h, q1px, q1e⟩, hR⟩ : ∃ r, pointS iw ih xs p = r := ⟨_, rfl⟩
  have hR1 := Lib.hid hR
  clear hR
  obtain ⟨⟨q2w, q2h, q2px, q2e⟩, hR⟩ : ∃ r, zipS iw ih xs jw jh ys how = r := ⟨_, rfl⟩
  have hR2 := Lib.hid hR
  clear hR
  obtain ⟨cv, hcv0⟩ : ∃ v, vld iw ih xs = v := ⟨_, rfl⟩
  have hcv := Lib.hid hcv0
  clear hcv0
  obtain ⟨cr, hcr0⟩ : ∃ r, (if cv = true then (0 : Int) else 20) = r := ⟨_, rfl⟩
  have hcr := Lib.hid hcr0
  clear hcr0
  have hBV : Below w.heap.size w (((w.alloc (.cells #[.int .i64 iw, .int .i64 ih, .slice a n c] 24)).alloc (.cells #[.int .i64 jw, .int .i64 jh, .slice a' n' c'] 24)).alloc (.cells p.cells 55)) := below_al (below_al (below_al (Below.refl _ _) _) _) _
  have k5 := ((Blk.new w 24 #[.int .i64 iw, .int .i64 ih, .slice a n c]).alloc (.cells #[.int .i64 jw, .int .i64 jh, .slice a' n' c'] 24)).alloc (.cells p.cells 55)
  have k6 := (Blk.new (w.alloc (.cells #[.int .i64 iw, .int .i64 ih, .slice a n c] 24)) 24 #[.int .i64 jw, .int .i64 jh, .slice a' n' c']).alloc (.cells p.cells 55)
  have k7 := Blk.new ((w.alloc (.cells #[.int .i64 iw, .int .i64 ih, .slice a n c] 24)).alloc (.cells #[.int .i64 jw, .int .i64 jh, .slice a' n' c'] 24)) 55 p.cells
  simp only [World.size_alloc] at k6 k7
  go_enter Try.func6, Try.ntmps6
  go_wp2_with fail
  obtain ⟨V, hV⟩ : ∃ V, ((w.alloc (.cells #[.int .i64 iw, .int .i64 ih, .slice a n c] 24)).alloc (.cells #[.int .i64 jw, .int .i64 jh, .slice a' n' c'] 24)).alloc (.cells p.cells 55) = V := ⟨_, rfl⟩
  rw [hV] at hBV k5 k6 k7 ⊢
  clear hV
  have hv7 := k7.lt
  rename_i Q1 K1 hK1
  have key : ∀ (so sp : Option Addr) (co cp bo bp : Nat) (W : World), Blk W bo 24 #[.int .i64 iw, .int .i64 ih, .slice so n co] → Blk W bp 24 #[.int .i64 jw, .int .i64 jh, .slice sp n' cp] →
      W.ownsRow V.heap.size 3 1 (.slice so n co) n (xs.map (Value.int .i64)) → W.ownsRow V.heap.size 3 1 (.slice sp n' cp) n' (ys.map (Value.int .i64)) → Below w.heap.size w W →
      Blk W w.heap.size 24 #[.int .i64 iw, .int .i64 ih, .slice a n c] → Blk W (w.heap.size + 1) 24 #[.int .i64 jw, .int .i64 jh, .slice a' n' c'] → Blk W (w.heap.size + 1 + 1) 55 p.cells → V.heap.size ≤ bo → V.heap.size ≤ bp → bo ≠ bp →
      K1 { tmps := #[imv iw ih a n c, imv jw jh a' n' c', p.val, .int .u8 how, .pointer (some ⟨w.heap.size, 0, none⟩), .pointer (some ⟨w.heap.size + 1, 0, none⟩), .pointer (some ⟨w.heap.size + 1 + 1, 0, none⟩), undef, .bool false, .pointer (some ⟨bo, 0, none⟩), .pointer (some ⟨bp, 0, none⟩), undef, undef, undef, undef, imv iw ih a n c, imv iw ih so n co, imv jw jh a' n' c', imv jw jh sp n' cp, undef, undef, undef, undef, undef, undef, undef, undef, undef, undef, undef, undef, undef, undef, undef, undef, undef, undef, undef, undef, undef, undef, undef, undef, undef, undef, undef, undef, undef, undef, undef, undef, undef, undef, undef, undef, undef, undef, undef, undef, undef, undef, undef, undef, undef, undef, undef, undef, undef, undef, undef, undef, undef, undef, undef, undef, undef, undef, undef, undef, undef, undef, undef], defers := [] } W := by
    clear k5 k6 k7
    intro so sp co cp bo bp W ko kp rowo rowp hB k5 k6 k7 hlo hlp hne
    refine hK1 _ _ ?_
    clear hK1
    have ro := row_rd' hn.out rowo
    have rp := row_rd' hn'.out rowp
    clear rowo rowp
    obtain ⟨B0, hB0⟩ : ∃ B0, W.heap.size = B0 := ⟨_, rfl⟩
    have rol := Nat.le_of_eq hB0.symm
    have rpl := rol
    have lo1 := ko.lt
    have lp1 := kp.lt
    rw [hB0] at ro rp lo1 lp1
    clear hB0
    have m0 := k5.cell (i := 0) rfl
    have m1 := k5.cell (i := 1) rfl
    have m2 := k5.cell (i := 2) rfl
    have j0 := k6.cell (i := 0) rfl
    have j1 := k6.cell (i := 1) rfl
    have j2 := k6.cell (i := 2) rfl
    have h0 := k7.cell (i := 0) rfl
    have h1 := k7.cell (i := 1) rfl
    have h2 := k7.cell (i := 2) rfl
    have h3 := k7.cell (i := 3) rfl
    have h4 := k7.cell (i := 4) rfl
    have o0 := ko.cell (i := 0) rfl
    have o1 := ko.cell (i := 1) rfl
    have o2 := ko.cell (i := 2) rfl
    have u0 := kp.cell (i := 0) rfl
    have u1 := kp.cell (i := 1) rfl
    have u2 := kp.cell (i := 2) rfl
    go_wp2_with fail
    have hcall := Point_any iw ih so co n xs hn p _ (by omega) (ro.mono rol)
    rw [hR1.out] at hcall
    refine hcall.mono ?_
    clear hcall
    rintro e V1 ⟨⟨v, rfl, hv⟩, hb⟩
    obtain ⟨sl, rfl, hrow⟩ := hv
    obtain ⟨srowxa, srowxc, rfl⟩ := row_slice hrow
    have rowx := row_base hrow rol
    clear hrow
    clear m0 m1 m2 j0 j1 j2 h0 h1 h2 h3 h4 o0 o1 o2 u0 u1 u2
    replace k5 := k5.below hb k5.lt
    replace k6 := k6.below hb k6.lt
    replace k7 := k7.below hb k7.lt
    replace ko := ko.below hb ko.lt
    replace kp := kp.below hb kp.lt
    replace ro := ro.below (Nat.le_refl _) (hb.mono rol)
    replace rol := Nat.le_trans rol hb.size
    replace rp := rp.below (Nat.le_refl _) (hb.mono rpl)
    replace rpl := Nat.le_trans rpl hb.size
    replace hB := hB.trans (hb.mono hB.size)
    have m0 := k5.cell (i := 0) rfl
    have m1 := k5.cell (i := 1) rfl
    have m2 := k5.cell (i := 2) rfl
    have j0 := k6.cell (i := 0) rfl
    have j1 := k6.cell (i := 1) rfl
    have j2 := k6.cell (i := 2) rfl
    have h0 := k7.cell (i := 0) rfl
    have h1 := k7.cell (i := 1) rfl
    have h2 := k7.cell (i := 2) rfl
    have h3 := k7.cell (i := 3) rfl
    have h4 := k7.cell (i := 4) rfl
    have o0 := ko.cell (i := 0) rfl
    have o1 := ko.cell (i := 1) rfl
    have o2 := ko.cell (i := 2) rfl
    have u0 := kp.cell (i := 0) rfl
    have u1 := kp.cell (i := 1) rfl
    have u2 := kp.cell (i := 2) rfl
    clear hb
    obtain ⟨V2, hW⟩ : ∃ V2, V1.alloc (.cells #[.int .i64 q1w, .int .i64 q1h, .slice srowxa q1px.length srowxc] 24) = V2 := ⟨_, rfl⟩
    obtain ⟨bx, hbx⟩ : ∃ bx, V1.heap.size = bx := ⟨_, rfl⟩
    have k12 := Blk.new V1 24 #[.int .i64 q1w, .int .i64 q1h, .slice srowxa q1px.length srowxc]
    rw [hW, hbx] at k12
    have hb : Below V1.heap.size V1 V2 := alloc_below hW
    have k5' := k5.below hb k5.lt
    have lk5k12 := k5.lt
    rw [hbx] at lk5k12
    have k6' := k6.below hb k6.lt
    have lk6k12 := k6.lt
    rw [hbx] at lk6k12
    have k7' := k7.below hb k7.lt
    have lk7k12 := k7.lt
    rw [hbx] at lk7k12
    have ko' := ko.below hb ko.lt
    have lkok12 := ko.lt
    rw [hbx] at lkok12
    have kp' := kp.below hb kp.lt
    have lkpk12 := kp.lt
    rw [hbx] at lkpk12
    have m0' := k5'.cell (i := 0) rfl
    have m1' := k5'.cell (i := 1) rfl
    have m2' := k5'.cell (i := 2) rfl
    have j0' := k6'.cell (i := 0) rfl
    have j1' := k6'.cell (i := 1) rfl
    have j2' := k6'.cell (i := 2) rfl
    have h0' := k7'.cell (i := 0) rfl
    have h1' := k7'.cell (i := 1) rfl
    have h2' := k7'.cell (i := 2) rfl
    have h3' := k7'.cell (i := 3) rfl
    have h4' := k7'.cell (i := 4) rfl
    have o0' := ko'.cell (i := 0) rfl
    have o1' := ko'.cell (i := 1) rfl
    have o2' := ko'.cell (i := 2) rfl
    have u0' := kp'.cell (i := 0) rfl
    have u1' := kp'.cell (i := 1) rfl
    have u2' := kp'.cell (i := 2) rfl
    have x0 := k12.cell (i := 0) rfl
    have x1 := k12.cell (i := 1) rfl
    have x2 := k12.cell (i := 2) rfl
    have fx0 := k12.frozen 0
    have fx1 := k12.frozen 1
    have fx2 := k12.frozen 2
    go_wp2_with fail
    clear hW
    have lrok12 := rol
    rw [hbx] at lrok12
    have lrpk12 := rpl
    rw [hbx] at lrpk12
    clear hbx
    clear m0 m1 m2 j0 j1 j2 h0 h1 h2 h3 h4 o0 o1 o2 u0 u1 u2
    clear m0' m1' m2' j0' j1' j2' h0' h1' h2' h3' h4' o0' o1' o2' u0' u1' u2'
    replace k5 := k5'
    clear k5'
    replace k6 := k6'
    clear k6'
    replace k7 := k7'
    clear k7'
    replace ko := ko'
    clear ko'
    replace kp := kp'
    clear kp'
    have m0 := k5.cell (i := 0) rfl
    have m1 := k5.cell (i := 1) rfl
    have m2 := k5.cell (i := 2) rfl
    have j0 := k6.cell (i := 0) rfl
    have j1 := k6.cell (i := 1) rfl
    have j2 := k6.cell (i := 2) rfl
    have h0 := k7.cell (i := 0) rfl
    have h1 := k7.cell (i := 1) rfl
    have h2 := k7.cell (i := 2) rfl
    have h3 := k7.cell (i := 3) rfl
    have h4 := k7.cell (i := 4) rfl
    have o0 := ko.cell (i := 0) rfl
    have o1 := ko.cell (i := 1) rfl
    have o2 := ko.cell (i := 2) rfl
    have u0 := kp.cell (i := 0) rfl
    have u1 := kp.cell (i := 1) rfl
    have u2 := kp.cell (i := 2) rfl
    replace ro := ro.below (Nat.le_refl _) (hb.mono rol)
    replace rol := Nat.le_trans rol hb.size
    replace rp := rp.below (Nat.le_refl _) (hb.mono rpl)
    replace rpl := Nat.le_trans rpl hb.size
    replace rowx := row_below rowx hb
    replace hB := hB.trans (hb.mono hB.size)
    clear hb

    have hcall := rPoint_any iw ih a c n xs hn p _ (by omega) ((hr.below (Nat.le_refl _) hB).mono hB.size)
    rw [hR1.out] at hcall
    refine hcall.mono ?_
    clear hcall
    rintro e V3 ⟨⟨v, rfl, hv⟩, hb⟩
    obtain ⟨sl, rfl, hrow⟩ := hv
    obtain ⟨srowya, srowyc, rfl⟩ := row_slice hrow
    have rowy := row_base hrow rol
    clear hrow
    clear m0 m1 m2 j0 j1 j2 h0 h1 h2 h3 h4 o0 o1 o2 u0 u1 u2 x0 x1 x2 fx0 fx1 fx2
    replace k5 := k5.below hb k5.lt
    replace k6 := k6.below hb k6.lt
    replace k7 := k7.below hb k7.lt
    replace ko := ko.below hb ko.lt
    replace kp := kp.below hb kp.lt
    replace k12 := k12.below hb k12.lt
    replace ro := ro.below (Nat.le_refl _) (hb.mono rol)
    replace rol := Nat.le_trans rol hb.size
    replace rp := rp.below (Nat.le_refl _) (hb.mono rpl)
    replace rpl := Nat.le_trans rpl hb.size
    replace rowx := row_below rowx hb
    replace hB := hB.trans (hb.mono hB.size)
    have m0 := k5.cell (i := 0) rfl
    have m1 := k5.cell (i := 1) rfl
    have m2 := k5.cell (i := 2) rfl
    have j0 := k6.cell (i := 0) rfl
    have j1 := k6.cell (i := 1) rfl
    have j2 := k6.cell (i := 2) rfl
    have h0 := k7.cell (i := 0) rfl
    have h1 := k7.cell (i := 1) rfl
    have h2 := k7.cell (i := 2) rfl
    have h3 := k7.cell (i := 3) rfl
    have h4 := k7.cell (i := 4) rfl
    have o0 := ko.cell (i := 0) rfl
    have o1 := ko.cell (i := 1) rfl
    have o2 := ko.cell (i := 2) rfl
    have u0 := kp.cell (i := 0) rfl
    have u1 := kp.cell (i := 1) rfl
    have u2 := kp.cell (i := 2) rfl
    have x0 := k12.cell (i := 0) rfl
    have x1 := k12.cell (i := 1) rfl
    have x2 := k12.cell (i := 2) rfl
    have fx0 := k12.frozen 0
    have fx1 := k12.frozen 1
    have fx2 := k12.frozen 2
    clear hb
    obtain ⟨V4, hW⟩ : ∃ V4, V3.alloc (.cells #[.int .i64 q1w, .int .i64 q1h, .slice srowya q1px.length srowyc] 24) = V4 := ⟨_, rfl⟩
    obtain ⟨byy, hbx⟩ : ∃ byy, V3.heap.size = byy := ⟨_, rfl⟩
    have k14 := Blk.new V3 24 #[.int .i64 q1w, .int .i64 q1h, .slice srowya q1px.length srowyc]
    rw [hW, hbx] at k14
    have hb : Below V3.heap.size V3 V4 := alloc_below hW
    have k5' := k5.below hb k5.lt
    have lk5k14 := k5.lt
    rw [hbx] at lk5k14
    have k6' := k6.below hb k6.lt
    have lk6k14 := k6.lt
    rw [hbx] at lk6k14
    have k7' := k7.below hb k7.lt
    have lk7k14 := k7.lt
    rw [hbx] at lk7k14
    have ko' := ko.below hb ko.lt
    have lkok14 := ko.lt
    rw [hbx] at lkok14
    have kp' := kp.below hb kp.lt
    have lkpk14 := kp.lt
    rw [hbx] at lkpk14
    have k12' := k12.below hb k12.lt
    have lk12k14 := k12.lt
    rw [hbx] at lk12k14
    have m0' := k5'.cell (i := 0) rfl
    have m1' := k5'.cell (i := 1) rfl
    have m2' := k5'.cell (i := 2) rfl
    have j0' := k6'.cell (i := 0) rfl
    have j1' := k6'.cell (i := 1) rfl
    have j2' := k6'.cell (i := 2) rfl
    have h0' := k7'.cell (i := 0) rfl
    have h1' := k7'.cell (i := 1) rfl
    have h2' := k7'.cell (i := 2) rfl
    have h3' := k7'.cell (i := 3) rfl
    have h4' := k7'.cell (i := 4) rfl
    have o0' := ko'.cell (i := 0) rfl
    have o1' := ko'.cell (i := 1) rfl
    have o2' := ko'.cell (i := 2) rfl
    have u0' := kp'.cell (i := 0) rfl
    have u1' := kp'.cell (i := 1) rfl
    have u2' := kp'.cell (i := 2) rfl
    have x0' := k12'.cell (i := 0) rfl
    have x1' := k12'.cell (i := 1) rfl
    have x2' := k12'.cell (i := 2) rfl
    have fx0' := k12'.frozen 0
    have fx1' := k12'.frozen 1
    have fx2' := k12'.frozen 2
    have y0 := k14.cell (i := 0) rfl
    have y1 := k14.cell (i := 1) rfl
    have y2 := k14.cell (i := 2) rfl
    have fy0 := k14.frozen 0
    have fy1 := k14.frozen 1
    have fy2 := k14.frozen 2
    go_wp2_with fail
    clear hW
    have lrok14 := rol
    rw [hbx] at lrok14
    have lrpk14 := rpl
    rw [hbx] at lrpk14
    clear hbx
    clear m0 m1 m2 j0 j1 j2 h0 h1 h2 h3 h4 o0 o1 o2 u0 u1 u2 x0 x1 x2 fx0 fx1 fx2
    clear m0' m1' m2' j0' j1' j2' h0' h1' h2' h3' h4' o0' o1' o2' u0' u1' u2' x0' x1' x2' fx0' fx1' fx2'
    replace k5 := k5'
    clear k5'
    replace k6 := k6'
    clear k6'
    replace k7 := k7'
    clear k7'
    replace ko := ko'
    clear ko'
    replace kp := kp'
    clear kp'
    replace k12 := k12'
    clear k12'
    have m0 := k5.cell (i := 0) rfl
    have m1 := k5.cell (i := 1) rfl
    have m2 := k5.cell (i := 2) rfl
    have j0 := k6.cell (i := 0) rfl
    have j1 := k6.cell (i := 1) rfl
    have j2 := k6.cell (i := 2) rfl
    have h0 := k7.cell (i := 0) rfl
    have h1 := k7.cell (i := 1) rfl
    have h2 := k7.cell (i := 2) rfl
    have h3 := k7.cell (i := 3) rfl
    have h4 := k7.cell (i := 4) rfl
    have o0 := ko.cell (i := 0) rfl
    have o1 := ko.cell (i := 1) rfl
    have o2 := ko.cell (i := 2) rfl
    have u0 := kp.cell (i := 0) rfl
    have u1 := kp.cell (i := 1) rfl
    have u2 := kp.cell (i := 2) rfl
    have x0 := k12.cell (i := 0) rfl
    have x1 := k12.cell (i := 1) rfl
    have x2 := k12.cell (i := 2) rfl
    have fx0 := k12.frozen 0
    have fx1 := k12.frozen 1
    have fx2 := k12.frozen 2
    replace ro := ro.below (Nat.le_refl _) (hb.mono rol)
    replace rol := Nat.le_trans rol hb.size
    replace rp := rp.below (Nat.le_refl _) (hb.mono rpl)
    replace rpl := Nat.le_trans rpl hb.size
    replace rowx := row_below rowx hb
    replace rowy := row_below rowy hb
    replace hB := hB.trans (hb.mono hB.size)
    clear hb
    have hlx := Lib.hid (row_max rowx)
    clear m0 m1 m2 j0 j1 j2 h0 h1 h2 h3 h4 o0 o1 o2 u0 u1 u2 x0 x1 x2 fx0 fx1 fx2 y0 y1 y2 fy0 fy1 fy2
    have hS : Below V4.heap.size V4 V4.drew := (Below.refl _ _).drew
    refine plain_region (fun W' => Below V4.heap.size V4 W') 16 16 (by kernel_rfl) rfl ?_
    simp only [Array.replicate_succ, Array.replicate_zero, List.push_toArray, List.nil_append, List.cons_append]
    refine take_op 0 (v := ?rv0) rfl (by kernel_rfl) (fun _ _ _ h => h) (by rfl) hS (fun w' hS' => ?ry0) ?rz0
    case ry0 =>
      have xq0 := (k12.below hS' k12.lt).cell (i := 0) rfl
      have xq1 := (k12.below hS' k12.lt).cell (i := 1) rfl
      have xq2 := (k12.below hS' k12.lt).cell (i := 2) rfl
      have yq0 := (k14.below hS' k14.lt).cell (i := 0) rfl
      have yq1 := (k14.below hS' k14.lt).cell (i := 1) rfl
      have yq2 := (k14.below hS' k14.lt).cell (i := 2) rfl
      have oq0 := (ko.below hS' ko.lt).cell (i := 0) rfl
      have oq1 := (ko.below hS' ko.lt).cell (i := 1) rfl
      have oq2 := (ko.below hS' ko.lt).cell (i := 2) rfl
      have mq0 := (k5.below hS' k5.lt).cell (i := 0) rfl
      have mq1 := (k5.below hS' k5.lt).cell (i := 1) rfl
      have mq2 := (k5.below hS' k5.lt).cell (i := 2) rfl
      go_simp
      rfl
    simp only [List.setIfInBounds_toArray, List.set_cons_zero, List.set_cons_succ]
    refine take_op 1 (v := ?rv1) rfl (by kernel_rfl) (fun _ _ _ h => h) (by rfl) hS (fun w' hS' => ?ry1) ?rz1
    case ry1 =>
      have xq0 := (k12.below hS' k12.lt).cell (i := 0) rfl
      have xq1 := (k12.below hS' k12.lt).cell (i := 1) rfl
      have xq2 := (k12.below hS' k12.lt).cell (i := 2) rfl
      have yq0 := (k14.below hS' k14.lt).cell (i := 0) rfl
      have yq1 := (k14.below hS' k14.lt).cell (i := 1) rfl
      have yq2 := (k14.below hS' k14.lt).cell (i := 2) rfl
      have oq0 := (ko.below hS' ko.lt).cell (i := 0) rfl
      have oq1 := (ko.below hS' ko.lt).cell (i := 1) rfl
      have oq2 := (ko.below hS' ko.lt).cell (i := 2) rfl
      have mq0 := (k5.below hS' k5.lt).cell (i := 0) rfl
      have mq1 := (k5.below hS' k5.lt).cell (i := 1) rfl
      have mq2 := (k5.below hS' k5.lt).cell (i := 2) rfl
      go_simp
      rfl
    simp only [List.setIfInBounds_toArray, List.set_cons_zero, List.set_cons_succ]
    refine step_op 2 (by kernel_rfl) rfl (fun K hK => ?_)
    rw [if_pos (by rfl)]
    go_simp
    refine (Same_eq q1w q1h srowxa srowya srowxc srowyc q1px.length q1px (Lib.hid rfl) _ hlx.out (row_rd (row_below rowx hS)) (row_rd (row_below rowy hS))).mono ?_
    rintro e Y1 ⟨rfl, hb1⟩
    have hS1 := hS.trans (hb1.mono hS.size)
    refine hK.out _ _ (fun h => hS1) ?_
    clear hK K
    try simp only [Act.put, List.setIfInBounds_toArray, List.set_cons_zero, List.set_cons_succ]
    refine take_op 3 (v := ?rv3) rfl (by kernel_rfl) (fun _ _ _ h => h) (by rfl) hS1 (fun w' hS' => ?ry3) ?rz3
    case ry3 =>
      go_simp
      try go_ints
      rfl
    simp only [List.setIfInBounds_toArray, List.set_cons_zero, List.set_cons_succ]
    refine take_op 4 (v := ?rv4) rfl (by kernel_rfl) (fun _ _ _ h => h) (by rfl) hS1 (fun w' hS' => ?ry4) ?rz4
    case ry4 =>
      go_simp
      rfl
    simp only [List.setIfInBounds_toArray, List.set_cons_zero, List.set_cons_succ]
    refine take_op 5 (v := ?rv5) rfl (by kernel_rfl) (fun _ _ _ h => h) (by rfl) hS1 (fun w' hS' => ?ry5) ?rz5
    case ry5 =>
      go_simp
      rfl
    simp only [List.setIfInBounds_toArray, List.set_cons_zero, List.set_cons_succ]
    refine take_op 6 (v := ?rv6) rfl (by kernel_rfl) (fun _ _ _ h => h) (by rfl) hS1 (fun w' hS' => ?ry6) ?rz6
    case ry6 =>
      go_simp
      rfl
    simp only [List.setIfInBounds_toArray, List.set_cons_zero, List.set_cons_succ]
    refine take_op 7 (v := ?rv7) rfl (by kernel_rfl) (fun _ _ _ h => h) (by rfl) hS1 (fun w' hS' => ?ry7) ?rz7
    case ry7 =>
      go_simp
      try go_ints
      rfl
    simp only [List.setIfInBounds_toArray, List.set_cons_zero, List.set_cons_succ]
    refine take_op 8 (v := ?rv8) rfl (by kernel_rfl) (fun _ _ _ h => h) (by rfl) hS1 (fun w' hS' => ?ry8) ?rz8
    case ry8 =>
      go_simp
      rfl
    simp only [List.setIfInBounds_toArray, List.set_cons_zero, List.set_cons_succ]
    refine take_op 9 (v := ?rv9) rfl (by kernel_rfl) (fun _ _ _ h => h) (by rfl) hS1 (fun w' hS' => ?ry9) ?rz9
    case ry9 =>
      go_simp
      rfl
    simp only [List.setIfInBounds_toArray, List.set_cons_zero, List.set_cons_succ]
    refine take_op 10 (v := ?rv10) rfl (by kernel_rfl) (fun _ _ _ h => h) (by rfl) hS1 (fun w' hS' => ?ry10) ?rz10
    case ry10 =>
      have xq0 := (k12.below hS' k12.lt).cell (i := 0) rfl
      have xq1 := (k12.below hS' k12.lt).cell (i := 1) rfl
      have xq2 := (k12.below hS' k12.lt).cell (i := 2) rfl
      have yq0 := (k14.below hS' k14.lt).cell (i := 0) rfl
      have yq1 := (k14.below hS' k14.lt).cell (i := 1) rfl
      have yq2 := (k14.below hS' k14.lt).cell (i := 2) rfl
      have oq0 := (ko.below hS' ko.lt).cell (i := 0) rfl
      have oq1 := (ko.below hS' ko.lt).cell (i := 1) rfl
      have oq2 := (ko.below hS' ko.lt).cell (i := 2) rfl
      have mq0 := (k5.below hS' k5.lt).cell (i := 0) rfl
      have mq1 := (k5.below hS' k5.lt).cell (i := 1) rfl
      have mq2 := (k5.below hS' k5.lt).cell (i := 2) rfl
      go_simp
      rfl
    simp only [List.setIfInBounds_toArray, List.set_cons_zero, List.set_cons_succ]
    refine take_op 12 (v := ?rv12) rfl (by kernel_rfl) (fun _ _ _ h => h) (by rfl) hS1 (fun w' hS' => ?ry12) ?rz12
    case ry12 =>
      have xq0 := (k12.below hS' k12.lt).cell (i := 0) rfl
      have xq1 := (k12.below hS' k12.lt).cell (i := 1) rfl
      have xq2 := (k12.below hS' k12.lt).cell (i := 2) rfl
      have yq0 := (k14.below hS' k14.lt).cell (i := 0) rfl
      have yq1 := (k14.below hS' k14.lt).cell (i := 1) rfl
      have yq2 := (k14.below hS' k14.lt).cell (i := 2) rfl
      have oq0 := (ko.below hS' ko.lt).cell (i := 0) rfl
      have oq1 := (ko.below hS' ko.lt).cell (i := 1) rfl
      have oq2 := (ko.below hS' ko.lt).cell (i := 2) rfl
      have mq0 := (k5.below hS' k5.lt).cell (i := 0) rfl
      have mq1 := (k5.below hS' k5.lt).cell (i := 1) rfl
      have mq2 := (k5.below hS' k5.lt).cell (i := 2) rfl
      go_simp
      rfl
    simp only [List.setIfInBounds_toArray, List.set_cons_zero, List.set_cons_succ]
    refine step_op 11 (by kernel_rfl) rfl (fun K hK => ?_)
    rw [if_pos (by rfl)]
    go_simp
    refine (Check_any iw ih so co n xs hn cv hcv.out _ (by omega) ((ro.below (Nat.le_refl _) (hS1.mono rol)).mono (Nat.le_trans rol hS1.size))).mono ?_
    rintro e Y2 ⟨rfl, hb2⟩
    rw [hcr.out]
    have hS2 := hS1.trans (hb2.mono hS1.size)
    refine hK.out _ _ (fun h => hS2) ?_
    clear hK K
    try simp only [Act.put, List.setIfInBounds_toArray, List.set_cons_zero, List.set_cons_succ]
    refine step_op 13 (by kernel_rfl) rfl (fun K hK => ?_)
    rw [if_pos (by rfl)]
    go_simp
    refine (rCheck_any iw ih a c n xs hn cv hcv.out _ (by omega) ((hr.below (Nat.le_refl _) (hB.trans (hS2.mono hB.size))).mono (Nat.le_trans hB.size hS2.size))).mono ?_
    rintro e Y3 ⟨rfl, hb3⟩
    rw [hcr.out]
    have hS3 := hS2.trans (hb3.mono hS2.size)
    refine hK.out _ _ (fun h => hS3) ?_
    clear hK K
    try simp only [Act.put, List.setIfInBounds_toArray, List.set_cons_zero, List.set_cons_succ]
    refine take_op 14 (v := ?rv14) rfl (by kernel_rfl) (fun _ _ _ h => h) (by rfl) hS3 (fun w' hS' => ?ry14) ?rz14
    case ry14 =>
      go_simp
      try go_ints
      rfl
    simp only [List.setIfInBounds_toArray, List.set_cons_zero, List.set_cons_succ]
    refine take_op 15 (v := ?rv15) rfl (by kernel_rfl) (fun _ _ _ h => h) (by rfl) hS3 (fun w' hS' => ?ry15) ?rz15
    case ry15 =>
      go_simp
      rfl
    simp only [List.setIfInBounds_toArray, List.set_cons_zero, List.set_cons_succ]
    refine done_ops (by kernel_rfl) ?_
    have m0 := k5.cell (i := 0) rfl
    have m1 := k5.cell (i := 1) rfl
    have m2 := k5.cell (i := 2) rfl
    have j0 := k6.cell (i := 0) rfl
    have j1 := k6.cell (i := 1) rfl
    have j2 := k6.cell (i := 2) rfl
    have h0 := k7.cell (i := 0) rfl
    have h1 := k7.cell (i := 1) rfl
    have h2 := k7.cell (i := 2) rfl
    have h3 := k7.cell (i := 3) rfl
    have h4 := k7.cell (i := 4) rfl
    have o0 := ko.cell (i := 0) rfl
    have o1 := ko.cell (i := 1) rfl
    have o2 := ko.cell (i := 2) rfl
    have u0 := kp.cell (i := 0) rfl
    have u1 := kp.cell (i := 1) rfl
    have u2 := kp.cell (i := 2) rfl
    have x0 := k12.cell (i := 0) rfl
    have x1 := k12.cell (i := 1) rfl
    have x2 := k12.cell (i := 2) rfl
    have fx0 := k12.frozen 0
    have fx1 := k12.frozen 1
    have fx2 := k12.frozen 2
    have y0 := k14.cell (i := 0) rfl
    have y1 := k14.cell (i := 1) rfl
    have y2 := k14.cell (i := 2) rfl
    have fy0 := k14.frozen 0
    have fy1 := k14.frozen 1
    have fy2 := k14.frozen 2
    clear m0 m1 m2 j0 j1 j2 h0 h1 h2 h3 h4 o0 o1 o2 u0 u1 u2 x0 x1 x2 fx0 fx1 fx2 y0 y1 y2 fy0 fy1 fy2
    replace k5 := k5.below hS3 k5.lt
    replace k6 := k6.below hS3 k6.lt
    replace k7 := k7.below hS3 k7.lt
    replace ko := ko.below hS3 ko.lt
    replace kp := kp.below hS3 kp.lt
    replace k12 := k12.below hS3 k12.lt
    replace k14 := k14.below hS3 k14.lt
    replace ro := ro.below (Nat.le_refl _) (hS3.mono rol)
    replace rol := Nat.le_trans rol hS3.size
    replace rp := rp.below (Nat.le_refl _) (hS3.mono rpl)
    replace rpl := Nat.le_trans rpl hS3.size
    replace rowx := row_below rowx hS3
    replace rowy := row_below rowy hS3
    replace hB := hB.trans (hS3.mono hB.size)
    have m0 := k5.cell (i := 0) rfl
    have m1 := k5.cell (i := 1) rfl
    have m2 := k5.cell (i := 2) rfl
    have j0 := k6.cell (i := 0) rfl
    have j1 := k6.cell (i := 1) rfl
    have j2 := k6.cell (i := 2) rfl
    have h0 := k7.cell (i := 0) rfl
    have h1 := k7.cell (i := 1) rfl
    have h2 := k7.cell (i := 2) rfl
    have h3 := k7.cell (i := 3) rfl
    have h4 := k7.cell (i := 4) rfl
    have o0 := ko.cell (i := 0) rfl
    have o1 := ko.cell (i := 1) rfl
    have o2 := ko.cell (i := 2) rfl
    have u0 := kp.cell (i := 0) rfl
    have u1 := kp.cell (i := 1) rfl
    have u2 := kp.cell (i := 2) rfl
    have x0 := k12.cell (i := 0) rfl
    have x1 := k12.cell (i := 1) rfl
    have x2 := k12.cell (i := 2) rfl
    have fx0 := k12.frozen 0
    have fx1 := k12.frozen 1
    have fx2 := k12.frozen 2
    have y0 := k14.cell (i := 0) rfl
    have y1 := k14.cell (i := 1) rfl
    have y2 := k14.cell (i := 2) rfl
    have fy0 := k14.frozen 0
    have fy1 := k14.frozen 1
    have fy2 := k14.frozen 2
    clear rowy
    go_wp2_with fail
    refine (spoil_any q1w q1h srowxa srowxc q1px.length q1px B0 _ hlx.out rol rowx).mono ?_
    rintro e V5 ⟨⟨v, rfl⟩, hg⟩
    have hlow := rowx.lt
    clear m0 m1 m2 j0 j1 j2 h0 h1 h2 h3 h4 o0 o1 o2 u0 u1 u2 x0 x1 x2 fx0 fx1 fx2 y0 y1 y2 fy0 fy1 fy2
    replace k5 := k5.kept hg (k5.not_row (by decide) rowx)
    replace k6 := k6.kept hg (k6.not_row (by decide) rowx)
    replace k7 := k7.kept hg (k7.not_row (by decide) rowx)
    replace ko := ko.kept hg (ko.not_row (by decide) rowx)
    replace kp := kp.kept hg (kp.not_row (by decide) rowx)
    replace k12 := k12.kept hg (k12.not_row (by decide) rowx)
    replace k14 := k14.kept hg (k14.not_row (by decide) rowx)
    replace ro := ro.below (Nat.le_refl _) (below_of_grown hg rol (by (intro k e; have := (hlow k e).1; omega)))
    replace rol := Nat.le_trans rol hg.size
    replace rp := rp.below (Nat.le_refl _) (below_of_grown hg rpl (by (intro k e; have := (hlow k e).1; omega)))
    replace rpl := Nat.le_trans rpl hg.size
    replace hB := hB.trans (below_of_grown hg hB.size (by (intro k e; have := (hlow k e).1; omega)))
    clear hg hlow rowx
    have m0 := k5.cell (i := 0) rfl
    have m1 := k5.cell (i := 1) rfl
    have m2 := k5.cell (i := 2) rfl
    have j0 := k6.cell (i := 0) rfl
    have j1 := k6.cell (i := 1) rfl
    have j2 := k6.cell (i := 2) rfl
    have h0 := k7.cell (i := 0) rfl
    have h1 := k7.cell (i := 1) rfl
    have h2 := k7.cell (i := 2) rfl
    have h3 := k7.cell (i := 3) rfl
    have h4 := k7.cell (i := 4) rfl
    have o0 := ko.cell (i := 0) rfl
    have o1 := ko.cell (i := 1) rfl
    have o2 := ko.cell (i := 2) rfl
    have u0 := kp.cell (i := 0) rfl
    have u1 := kp.cell (i := 1) rfl
    have u2 := kp.cell (i := 2) rfl
    have x0 := k12.cell (i := 0) rfl
    have x1 := k12.cell (i := 1) rfl
    have x2 := k12.cell (i := 2) rfl
    have fx0 := k12.frozen 0
    have fx1 := k12.frozen 1
    have fx2 := k12.frozen 2
    have y0 := k14.cell (i := 0) rfl
    have y1 := k14.cell (i := 1) rfl
    have y2 := k14.cell (i := 2) rfl
    have fy0 := k14.frozen 0
    have fy1 := k14.frozen 1
    have fy2 := k14.frozen 2
    clear hlx
    go_wp2_with fail
    have hcall := Zip_any iw ih so co n xs hn jw jh sp cp n' ys hn' how hw1 hw2 _ (by omega) (by omega) (ro.mono rol) (rp.mono rpl)
    rw [hR2.out] at hcall
    refine hcall.mono ?_
    clear hcall
    rintro e V6 ⟨⟨v, rfl, hv⟩, hb⟩
    obtain ⟨sl, rfl, hrow⟩ := hv
    obtain ⟨srowxa, srowxc, rfl⟩ := row_slice hrow
    have rowx := row_base hrow rol
    clear hrow
    clear m0 m1 m2 j0 j1 j2 h0 h1 h2 h3 h4 o0 o1 o2 u0 u1 u2 x0 x1 x2 fx0 fx1 fx2 y0 y1 y2 fy0 fy1 fy2
    replace k5 := k5.below hb k5.lt
    replace k6 := k6.below hb k6.lt
    replace k7 := k7.below hb k7.lt
    replace ko := ko.below hb ko.lt
    replace kp := kp.below hb kp.lt
    replace k12 := k12.below hb k12.lt
    replace k14 := k14.below hb k14.lt
    replace ro := ro.below (Nat.le_refl _) (hb.mono rol)
    replace rol := Nat.le_trans rol hb.size
    replace rp := rp.below (Nat.le_refl _) (hb.mono rpl)
    replace rpl := Nat.le_trans rpl hb.size
    replace hB := hB.trans (hb.mono hB.size)
    have m0 := k5.cell (i := 0) rfl
    have m1 := k5.cell (i := 1) rfl
    have m2 := k5.cell (i := 2) rfl
    have j0 := k6.cell (i := 0) rfl
    have j1 := k6.cell (i := 1) rfl
    have j2 := k6.cell (i := 2) rfl
    have h0 := k7.cell (i := 0) rfl
    have h1 := k7.cell (i := 1) rfl
    have h2 := k7.cell (i := 2) rfl
    have h3 := k7.cell (i := 3) rfl
    have h4 := k7.cell (i := 4) rfl
    have o0 := ko.cell (i := 0) rfl
    have o1 := ko.cell (i := 1) rfl
    have o2 := ko.cell (i := 2) rfl
    have u0 := kp.cell (i := 0) rfl
    have u1 := kp.cell (i := 1) rfl
    have u2 := kp.cell (i := 2) rfl
    have x0 := k12.cell (i := 0) rfl
    have x1 := k12.cell (i := 1) rfl
    have x2 := k12.cell (i := 2) rfl
    have fx0 := k12.frozen 0
    have fx1 := k12.frozen 1
    have fx2 := k12.frozen 2
    have y0 := k14.cell (i := 0) rfl
    have y1 := k14.cell (i := 1) rfl
    have y2 := k14.cell (i := 2) rfl
    have fy0 := k14.frozen 0
    have fy1 := k14.frozen 1
    have fy2 := k14.frozen 2
    clear hb
    obtain ⟨V7, hW⟩ : ∃ V7, put3 V6 bx (.int .i64 q2w) (.int .i64 q2h) (.slice srowxa q2px.length srowxc) = V7 := ⟨_, rfl⟩
    have hg : V6.grownBy V7 (some bx) := hW ▸ put3_grown _ _ _ _ _
    have k12' := put3_blk k12 (.int .i64 q2w) (.int .i64 q2h) (.slice srowxa q2px.length srowxc)
    rw [hW] at k12'
    have rowx' := put3_row rowx (k12.not_row (by decide) rowx) (.int .i64 q2w) (.int .i64 q2h) (.slice srowxa q2px.length srowxc)
    rw [hW] at rowx'
    have k5' := k5.kept hg (by simp <;> omega)
    have k6' := k6.kept hg (by simp <;> omega)
    have k7' := k7.kept hg (by simp <;> omega)
    have ko' := ko.kept hg (by simp <;> omega)
    have kp' := kp.kept hg (by simp <;> omega)
    have k14' := k14.kept hg (by simp <;> omega)
    have m0' := k5'.cell (i := 0) rfl
    have m1' := k5'.cell (i := 1) rfl
    have m2' := k5'.cell (i := 2) rfl
    have j0' := k6'.cell (i := 0) rfl
    have j1' := k6'.cell (i := 1) rfl
    have j2' := k6'.cell (i := 2) rfl
    have h0' := k7'.cell (i := 0) rfl
    have h1' := k7'.cell (i := 1) rfl
    have h2' := k7'.cell (i := 2) rfl
    have h3' := k7'.cell (i := 3) rfl
    have h4' := k7'.cell (i := 4) rfl
    have o0' := ko'.cell (i := 0) rfl
    have o1' := ko'.cell (i := 1) rfl
    have o2' := ko'.cell (i := 2) rfl
    have u0' := kp'.cell (i := 0) rfl
    have u1' := kp'.cell (i := 1) rfl
    have u2' := kp'.cell (i := 2) rfl
    have x0' := k12'.cell (i := 0) rfl
    have x1' := k12'.cell (i := 1) rfl
    have x2' := k12'.cell (i := 2) rfl
    have fx0' := k12'.frozen 0
    have fx1' := k12'.frozen 1
    have fx2' := k12'.frozen 2
    have y0' := k14'.cell (i := 0) rfl
    have y1' := k14'.cell (i := 1) rfl
    have y2' := k14'.cell (i := 2) rfl
    have fy0' := k14'.frozen 0
    have fy1' := k14'.frozen 1
    have fy2' := k14'.frozen 2
    go_wp2_with fail
    clear hW
    clear m0 m1 m2 j0 j1 j2 h0 h1 h2 h3 h4 o0 o1 o2 u0 u1 u2 x0 x1 x2 fx0 fx1 fx2 y0 y1 y2 fy0 fy1 fy2
    clear m0' m1' m2' j0' j1' j2' h0' h1' h2' h3' h4' o0' o1' o2' u0' u1' u2' x0' x1' x2' fx0' fx1' fx2' y0' y1' y2' fy0' fy1' fy2'
    replace k5 := k5'
    clear k5'
    replace k6 := k6'
    clear k6'
    replace k7 := k7'
    clear k7'
    replace ko := ko'
    clear ko'
    replace kp := kp'
    clear kp'
    replace k12 := k12'
    clear k12'
    replace k14 := k14'
    clear k14'
    have m0 := k5.cell (i := 0) rfl
    have m1 := k5.cell (i := 1) rfl
    have m2 := k5.cell (i := 2) rfl
    have j0 := k6.cell (i := 0) rfl
    have j1 := k6.cell (i := 1) rfl
    have j2 := k6.cell (i := 2) rfl
    have h0 := k7.cell (i := 0) rfl
    have h1 := k7.cell (i := 1) rfl
    have h2 := k7.cell (i := 2) rfl
    have h3 := k7.cell (i := 3) rfl
    have h4 := k7.cell (i := 4) rfl
    have o0 := ko.cell (i := 0) rfl
    have o1 := ko.cell (i := 1) rfl
    have o2 := ko.cell (i := 2) rfl
    have u0 := kp.cell (i := 0) rfl
    have u1 := kp.cell (i := 1) rfl
    have u2 := kp.cell (i := 2) rfl
    have x0 := k12.cell (i := 0) rfl
    have x1 := k12.cell (i := 1) rfl
    have x2 := k12.cell (i := 2) rfl
    have fx0 := k12.frozen 0
    have fx1 := k12.frozen 1
    have fx2 := k12.frozen 2
    have y0 := k14.cell (i := 0) rfl
    have y1 := k14.cell (i := 1) rfl
    have y2 := k14.cell (i := 2) rfl
    have fy0 := k14.frozen 0
    have fy1 := k14.frozen 1
    have fy2 := k14.frozen 2
    replace ro := ro.below (Nat.le_refl _) (below_of_grown hg rol (by intro k e; cases e; omega))
    replace rol := Nat.le_trans rol hg.size
    replace rp := rp.below (Nat.le_refl _) (below_of_grown hg rpl (by intro k e; cases e; omega))
    replace rpl := Nat.le_trans rpl hg.size
    replace rowx := rowx'
    clear rowx'
    replace hB := hB.trans (below_of_grown hg hB.size (by intro k e; cases e; omega))
    clear hg

    have hcall := rZip_any iw ih a c n xs hn jw jh a' c' n' ys hn' how hw1 hw2 _ (by omega) ((hr.below (Nat.le_refl _) hB).mono hB.size) (by omega) ((hr'.below (Nat.le_refl _) hB).mono hB.size)
    rw [hR2.out] at hcall
    refine hcall.mono ?_
    clear hcall
    rintro e V8 ⟨⟨v, rfl, hv⟩, hb⟩
    obtain ⟨sl, rfl, hrow⟩ := hv
    obtain ⟨srowya, srowyc, rfl⟩ := row_slice hrow
    have rowy := row_base hrow rol
    clear hrow
    clear m0 m1 m2 j0 j1 j2 h0 h1 h2 h3 h4 o0 o1 o2 u0 u1 u2 x0 x1 x2 fx0 fx1 fx2 y0 y1 y2 fy0 fy1 fy2
    replace k5 := k5.below hb k5.lt
    replace k6 := k6.below hb k6.lt
    replace k7 := k7.below hb k7.lt
    replace ko := ko.below hb ko.lt
    replace kp := kp.below hb kp.lt
    replace k12 := k12.below hb k12.lt
    replace k14 := k14.below hb k14.lt
    replace ro := ro.below (Nat.le_refl _) (hb.mono rol)
    replace rol := Nat.le_trans rol hb.size
    replace rp := rp.below (Nat.le_refl _) (hb.mono rpl)
    replace rpl := Nat.le_trans rpl hb.size
    replace rowx := row_below rowx hb
    replace hB := hB.trans (hb.mono hB.size)
    have m0 := k5.cell (i := 0) rfl
    have m1 := k5.cell (i := 1) rfl
    have m2 := k5.cell (i := 2) rfl
    have j0 := k6.cell (i := 0) rfl
    have j1 := k6.cell (i := 1) rfl
    have j2 := k6.cell (i := 2) rfl
    have h0 := k7.cell (i := 0) rfl
    have h1 := k7.cell (i := 1) rfl
    have h2 := k7.cell (i := 2) rfl
    have h3 := k7.cell (i := 3) rfl
    have h4 := k7.cell (i := 4) rfl
    have o0 := ko.cell (i := 0) rfl
    have o1 := ko.cell (i := 1) rfl
    have o2 := ko.cell (i := 2) rfl
    have u0 := kp.cell (i := 0) rfl
    have u1 := kp.cell (i := 1) rfl
    have u2 := kp.cell (i := 2) rfl
    have x0 := k12.cell (i := 0) rfl
    have x1 := k12.cell (i := 1) rfl
    have x2 := k12.cell (i := 2) rfl
    have fx0 := k12.frozen 0
    have fx1 := k12.frozen 1
    have fx2 := k12.frozen 2
    have y0 := k14.cell (i := 0) rfl
    have y1 := k14.cell (i := 1) rfl
    have y2 := k14.cell (i := 2) rfl
    have fy0 := k14.frozen 0
    have fy1 := k14.frozen 1
    have fy2 := k14.frozen 2
    clear hb
    obtain ⟨V9, hW⟩ : ∃ V9, put3 V8 byy (.int .i64 q2w) (.int .i64 q2h) (.slice srowya q2px.length srowyc) = V9 := ⟨_, rfl⟩
    have hg : V8.grownBy V9 (some byy) := hW ▸ put3_grown _ _ _ _ _
    have k14' := put3_blk k14 (.int .i64 q2w) (.int .i64 q2h) (.slice srowya q2px.length srowyc)
    rw [hW] at k14'
    have rowx' := put3_row rowx (k14.not_row (by decide) rowx) (.int .i64 q2w) (.int .i64 q2h) (.slice srowya q2px.length srowyc)
    rw [hW] at rowx'
    have rowy' := put3_row rowy (k14.not_row (by decide) rowy) (.int .i64 q2w) (.int .i64 q2h) (.slice srowya q2px.length srowyc)
    rw [hW] at rowy'
    have k5' := k5.kept hg (by simp <;> omega)
    have k6' := k6.kept hg (by simp <;> omega)
    have k7' := k7.kept hg (by simp <;> omega)
    have ko' := ko.kept hg (by simp <;> omega)
    have kp' := kp.kept hg (by simp <;> omega)
    have k12' := k12.kept hg (by simp <;> omega)
    have m0' := k5'.cell (i := 0) rfl
    have m1' := k5'.cell (i := 1) rfl
    have m2' := k5'.cell (i := 2) rfl
    have j0' := k6'.cell (i := 0) rfl
    have j1' := k6'.cell (i := 1) rfl
    have j2' := k6'.cell (i := 2) rfl
    have h0' := k7'.cell (i := 0) rfl
    have h1' := k7'.cell (i := 1) rfl
    have h2' := k7'.cell (i := 2) rfl
    have h3' := k7'.cell (i := 3) rfl
    have h4' := k7'.cell (i := 4) rfl
    have o0' := ko'.cell (i := 0) rfl
    have o1' := ko'.cell (i := 1) rfl
    have o2' := ko'.cell (i := 2) rfl
    have u0' := kp'.cell (i := 0) rfl
    have u1' := kp'.cell (i := 1) rfl
    have u2' := kp'.cell (i := 2) rfl
    have x0' := k12'.cell (i := 0) rfl
    have x1' := k12'.cell (i := 1) rfl
    have x2' := k12'.cell (i := 2) rfl
    have fx0' := k12'.frozen 0
    have fx1' := k12'.frozen 1
    have fx2' := k12'.frozen 2
    have y0' := k14'.cell (i := 0) rfl
    have y1' := k14'.cell (i := 1) rfl
    have y2' := k14'.cell (i := 2) rfl
    have fy0' := k14'.frozen 0
    have fy1' := k14'.frozen 1
    have fy2' := k14'.frozen 2
    go_wp2_with fail
    clear hW
    clear m0 m1 m2 j0 j1 j2 h0 h1 h2 h3 h4 o0 o1 o2 u0 u1 u2 x0 x1 x2 fx0 fx1 fx2 y0 y1 y2 fy0 fy1 fy2
    clear m0' m1' m2' j0' j1' j2' h0' h1' h2' h3' h4' o0' o1' o2' u0' u1' u2' x0' x1' x2' fx0' fx1' fx2' y0' y1' y2' fy0' fy1' fy2'
    replace k5 := k5'
    clear k5'
    replace k6 := k6'
    clear k6'
    replace k7 := k7'
    clear k7'
    replace ko := ko'
    clear ko'
    replace kp := kp'
    clear kp'
    replace k12 := k12'
    clear k12'
    replace k14 := k14'
    clear k14'
    have m0 := k5.cell (i := 0) rfl
    have m1 := k5.cell (i := 1) rfl
    have m2 := k5.cell (i := 2) rfl
    have j0 := k6.cell (i := 0) rfl
    have j1 := k6.cell (i := 1) rfl
    have j2 := k6.cell (i := 2) rfl
    have h0 := k7.cell (i := 0) rfl
    have h1 := k7.cell (i := 1) rfl
    have h2 := k7.cell (i := 2) rfl
    have h3 := k7.cell (i := 3) rfl
    have h4 := k7.cell (i := 4) rfl
    have o0 := ko.cell (i := 0) rfl
    have o1 := ko.cell (i := 1) rfl
    have o2 := ko.cell (i := 2) rfl
    have u0 := kp.cell (i := 0) rfl
    have u1 := kp.cell (i := 1) rfl
    have u2 := kp.cell (i := 2) rfl
    have x0 := k12.cell (i := 0) rfl
    have x1 := k12.cell (i := 1) rfl
    have x2 := k12.cell (i := 2) rfl
    have fx0 := k12.frozen 0
    have fx1 := k12.frozen 1
    have fx2 := k12.frozen 2
    have y0 := k14.cell (i := 0) rfl
    have y1 := k14.cell (i := 1) rfl
    have y2 := k14.cell (i := 2) rfl
    have fy0 := k14.frozen 0
    have fy1 := k14.frozen 1
    have fy2 := k14.frozen 2
    replace ro := ro.below (Nat.le_refl _) (below_of_grown hg rol (by intro k e; cases e; omega))
    replace rol := Nat.le_trans rol hg.size
    replace rp := rp.below (Nat.le_refl _) (below_of_grown hg rpl (by intro k e; cases e; omega))
    replace rpl := Nat.le_trans rpl hg.size
    replace rowx := rowx'
    clear rowx'
    replace rowy := rowy'
    clear rowy'
    replace hB := hB.trans (below_of_grown hg hB.size (by intro k e; cases e; omega))
    clear hg
    have hlx := Lib.hid (row_max rowx)

    refine (Same_eq q2w q2h srowxa srowya srowxc srowyc q2px.length q2px (Lib.hid rfl) _ hlx.out (row_rd rowx) (row_rd rowy)).mono ?_
    rintro e V10 ⟨rfl, hb⟩
    clear m0 m1 m2 j0 j1 j2 h0 h1 h2 h3 h4 o0 o1 o2 u0 u1 u2 x0 x1 x2 fx0 fx1 fx2 y0 y1 y2 fy0 fy1 fy2
    replace k5 := k5.below hb k5.lt
    replace k6 := k6.below hb k6.lt
    replace k7 := k7.below hb k7.lt
    replace ko := ko.below hb ko.lt
    replace kp := kp.below hb kp.lt
    replace k12 := k12.below hb k12.lt
    replace k14 := k14.below hb k14.lt
    replace ro := ro.below (Nat.le_refl _) (hb.mono rol)
    replace rol := Nat.le_trans rol hb.size
    replace rp := rp.below (Nat.le_refl _) (hb.mono rpl)
    replace rpl := Nat.le_trans rpl hb.size
    replace rowx := row_below rowx hb
    replace rowy := row_below rowy hb
    replace hB := hB.trans (hb.mono hB.size)
    have m0 := k5.cell (i := 0) rfl
    have m1 := k5.cell (i := 1) rfl
    have m2 := k5.cell (i := 2) rfl
    have j0 := k6.cell (i := 0) rfl
    have j1 := k6.cell (i := 1) rfl
    have j2 := k6.cell (i := 2) rfl
    have h0 := k7.cell (i := 0) rfl
    have h1 := k7.cell (i := 1) rfl
    have h2 := k7.cell (i := 2) rfl
    have h3 := k7.cell (i := 3) rfl
    have h4 := k7.cell (i := 4) rfl
    have o0 := ko.cell (i := 0) rfl
    have o1 := ko.cell (i := 1) rfl
    have o2 := ko.cell (i := 2) rfl
    have u0 := kp.cell (i := 0) rfl
    have u1 := kp.cell (i := 1) rfl
    have u2 := kp.cell (i := 2) rfl
    have x0 := k12.cell (i := 0) rfl
    have x1 := k12.cell (i := 1) rfl
    have x2 := k12.cell (i := 2) rfl
    have fx0 := k12.frozen 0
    have fx1 := k12.frozen 1
    have fx2 := k12.frozen 2
    have y0 := k14.cell (i := 0) rfl
    have y1 := k14.cell (i := 1) rfl
    have y2 := k14.cell (i := 2) rfl
    have fy0 := k14.frozen 0
    have fy1 := k14.frozen 1
    have fy2 := k14.frozen 2
    clear hb
    clear rowy
    go_wp2_with fail
    refine (spoil_any q2w q2h srowxa srowxc q2px.length q2px B0 _ hlx.out rol rowx).mono ?_
    rintro e V11 ⟨⟨v, rfl⟩, hg⟩
    have hlow := rowx.lt
    clear m0 m1 m2 j0 j1 j2 h0 h1 h2 h3 h4 o0 o1 o2 u0 u1 u2 x0 x1 x2 fx0 fx1 fx2 y0 y1 y2 fy0 fy1 fy2
    replace k5 := k5.kept hg (k5.not_row (by decide) rowx)
    replace k6 := k6.kept hg (k6.not_row (by decide) rowx)
    replace k7 := k7.kept hg (k7.not_row (by decide) rowx)
    replace ko := ko.kept hg (ko.not_row (by decide) rowx)
    replace kp := kp.kept hg (kp.not_row (by decide) rowx)
    replace k12 := k12.kept hg (k12.not_row (by decide) rowx)
    replace k14 := k14.kept hg (k14.not_row (by decide) rowx)
    replace ro := ro.below (Nat.le_refl _) (below_of_grown hg rol (by (intro k e; have := (hlow k e).1; omega)))
    replace rol := Nat.le_trans rol hg.size
    replace rp := rp.below (Nat.le_refl _) (below_of_grown hg rpl (by (intro k e; have := (hlow k e).1; omega)))
    replace rpl := Nat.le_trans rpl hg.size
    replace hB := hB.trans (below_of_grown hg hB.size (by (intro k e; have := (hlow k e).1; omega)))
    clear hg hlow rowx
    have m0 := k5.cell (i := 0) rfl
    have m1 := k5.cell (i := 1) rfl
    have m2 := k5.cell (i := 2) rfl
    have j0 := k6.cell (i := 0) rfl
    have j1 := k6.cell (i := 1) rfl
    have j2 := k6.cell (i := 2) rfl
    have h0 := k7.cell (i := 0) rfl
    have h1 := k7.cell (i := 1) rfl
    have h2 := k7.cell (i := 2) rfl
    have h3 := k7.cell (i := 3) rfl
    have h4 := k7.cell (i := 4) rfl
    have o0 := ko.cell (i := 0) rfl
    have o1 := ko.cell (i := 1) rfl
    have o2 := ko.cell (i := 2) rfl
    have u0 := kp.cell (i := 0) rfl
    have u1 := kp.cell (i := 1) rfl
    have u2 := kp.cell (i := 2) rfl
    have x0 := k12.cell (i := 0) rfl
    have x1 := k12.cell (i := 1) rfl
    have x2 := k12.cell (i := 2) rfl
    have fx0 := k12.frozen 0
    have fx1 := k12.frozen 1
    have fx2 := k12.frozen 2
    have y0 := k14.cell (i := 0) rfl
    have y1 := k14.cell (i := 1) rfl
    have y2 := k14.cell (i := 2) rfl
    have fy0 := k14.frozen 0
    have fy1 := k14.frozen 1
    have fy2 := k14.frozen 2
    clear hlx
    go_wp2_with fail
    refine (Same_eq iw ih so a co c n xs hn _ (by omega) (ro.mono rol) ((hr.below (Nat.le_refl _) hB).mono hB.size)).mono ?_
    rintro e V12 ⟨rfl, hb⟩
    clear m0 m1 m2 j0 j1 j2 h0 h1 h2 h3 h4 o0 o1 o2 u0 u1 u2 x0 x1 x2 fx0 fx1 fx2 y0 y1 y2 fy0 fy1 fy2
    replace k5 := k5.below hb k5.lt
    replace k6 := k6.below hb k6.lt
    replace k7 := k7.below hb k7.lt
    replace ko := ko.below hb ko.lt
    replace kp := kp.below hb kp.lt
    replace k12 := k12.below hb k12.lt
    replace k14 := k14.below hb k14.lt
    replace ro := ro.below (Nat.le_refl _) (hb.mono rol)
    replace rol := Nat.le_trans rol hb.size
    replace rp := rp.below (Nat.le_refl _) (hb.mono rpl)
    replace rpl := Nat.le_trans rpl hb.size
    replace hB := hB.trans (hb.mono hB.size)
    have m0 := k5.cell (i := 0) rfl
    have m1 := k5.cell (i := 1) rfl
    have m2 := k5.cell (i := 2) rfl
    have j0 := k6.cell (i := 0) rfl
    have j1 := k6.cell (i := 1) rfl
    have j2 := k6.cell (i := 2) rfl
    have h0 := k7.cell (i := 0) rfl
    have h1 := k7.cell (i := 1) rfl
    have h2 := k7.cell (i := 2) rfl
    have h3 := k7.cell (i := 3) rfl
    have h4 := k7.cell (i := 4) rfl
    have o0 := ko.cell (i := 0) rfl
    have o1 := ko.cell (i := 1) rfl
    have o2 := ko.cell (i := 2) rfl
    have u0 := kp.cell (i := 0) rfl
    have u1 := kp.cell (i := 1) rfl
    have u2 := kp.cell (i := 2) rfl
    have x0 := k12.cell (i := 0) rfl
    have x1 := k12.cell (i := 1) rfl
    have x2 := k12.cell (i := 2) rfl
    have fx0 := k12.frozen 0
    have fx1 := k12.frozen 1
    have fx2 := k12.frozen 2
    have y0 := k14.cell (i := 0) rfl
    have y1 := k14.cell (i := 1) rfl
    have y2 := k14.cell (i := 2) rfl
    have fy0 := k14.frozen 0
    have fy1 := k14.frozen 1
    have fy2 := k14.frozen 2
    clear hb
    go_wp2_with fail
    refine (Same_eq jw jh sp a' cp c' n' ys hn' _ (by omega) (rp.mono rpl) ((hr'.below (Nat.le_refl _) hB).mono hB.size)).mono ?_
    rintro e Ve ⟨rfl, hb⟩
    go_wp2_with fail
    go_ret
    exact ⟨rfl, hB.trans (hb.mono hB.size)⟩
  have hB : Below V.heap.size V V.drew := (Below.refl _ _).drew
  refine plain_region (fun W' => Below V.heap.size V W') 8 8 (by kernel_rfl) rfl ?_
  simp only [Array.replicate_succ, Array.replicate_zero, List.push_toArray, List.nil_append, List.cons_append]
  refine take_op 0 (v := ?tv0) rfl (by kernel_rfl) (fun _ _ _ h => h) (by rfl) hB (fun w' hS' => ?ty0) ?tz0
  case ty0 =>
    have m0 := (k5.below hS' k5.lt).cell (i := 0) rfl
    have m1 := (k5.below hS' k5.lt).cell (i := 1) rfl
    have m2 := (k5.below hS' k5.lt).cell (i := 2) rfl
    have j0 := (k6.below hS' k6.lt).cell (i := 0) rfl
    have j1 := (k6.below hS' k6.lt).cell (i := 1) rfl
    have j2 := (k6.below hS' k6.lt).cell (i := 2) rfl
    go_simp
    rfl
  simp only [List.setIfInBounds_toArray, List.set_cons_zero, List.set_cons_succ]
  refine take_op 2 (v := ?tv2) rfl (by kernel_rfl) (fun _ _ _ h => h) (by rfl) hB (fun w' hS' => ?ty2) ?tz2
  case ty2 =>
    have m0 := (k5.below hS' k5.lt).cell (i := 0) rfl
    have m1 := (k5.below hS' k5.lt).cell (i := 1) rfl
    have m2 := (k5.below hS' k5.lt).cell (i := 2) rfl
    have j0 := (k6.below hS' k6.lt).cell (i := 0) rfl
    have j1 := (k6.below hS' k6.lt).cell (i := 1) rfl
    have j2 := (k6.below hS' k6.lt).cell (i := 2) rfl
    go_simp
    rfl
  simp only [List.setIfInBounds_toArray, List.set_cons_zero, List.set_cons_succ]
  replace k5 := k5.below hB k5.lt
  replace k6 := k6.below hB k6.lt
  replace k7 := k7.below hB k7.lt
  obtain ⟨V0, hV0⟩ : ∃ V0, V.drew = V0 := ⟨_, rfl⟩
  rw [hV0] at hB k5 k6 k7 ⊢
  clear hV0
  refine fork3 (i := 1) (j := 4) (m := 5) (by kernel_rfl) ?_ ?_ ?_
  · refine step_at 1 rfl (fun K hK => ?_)
    rw [if_pos (by rfl)]
    go_simp
    refine (Twin_any iw ih a c n xs hn _ hm ((hr.below (Nat.le_refl _) (hBV.trans (hB.mono hBV.size))).mono (Nat.le_trans hBV.size hB.size)) hnil).mono ?_
    rintro e U1 ⟨v, rfl, ⟨sl, rfl, hrow⟩, hb⟩
    obtain ⟨so, co, rfl⟩ := row_slice hrow
    rw [hn.out] at hrow ⊢
    have rowon := row_base hrow hB.size
    clear hrow
    replace k5 := k5.below hb k5.lt
    replace k6 := k6.below hb k6.lt
    replace k7 := k7.below hb k7.lt
    replace hB := hB.trans (hb.mono hB.size)
    have rowo := rowon
    clear rowon
    clear hb
    refine hK.out _ _ (fun _ => hB) ?_
    clear hK K
    try simp only [Act.put, List.setIfInBounds_toArray, List.set_cons_zero, List.set_cons_succ]
    refine fork3 (i := 3) (j := 4) (m := 5) (by kernel_rfl) ?_ ?_ ?_
    · refine step_at 3 rfl (fun K hK => ?_)
      rw [if_pos (by rfl)]
      go_simp
      refine (Twin_any jw jh a' c' n' ys hn' _ hm' ((hr'.below (Nat.le_refl _) (hBV.trans (hB.mono hBV.size))).mono (Nat.le_trans hBV.size hB.size)) hnil').mono ?_
      rintro e U2 ⟨v, rfl, ⟨sl, rfl, hrow⟩, hb⟩
      obtain ⟨sp, cp, rfl⟩ := row_slice hrow
      rw [hn'.out] at hrow ⊢
      have rowpn := row_base hrow hB.size
      clear hrow
      replace k5 := k5.below hb k5.lt
      replace k6 := k6.below hb k6.lt
      replace k7 := k7.below hb k7.lt
      replace rowo := row_below rowo hb
      replace hB := hB.trans (hb.mono hB.size)
      have rowp := rowpn
      clear rowpn
      clear hb
      refine hK.out _ _ (fun _ => hB) ?_
      clear hK K
      try simp only [Act.put, List.setIfInBounds_toArray, List.set_cons_zero, List.set_cons_succ]
      refine fork2 (i := 4) (j := 5) (by kernel_rfl) ?_ ?_
      · refine step_at 4 rfl (fun K hK => ?_)
        rw [if_pos (by rfl)]
        go_simp
        have kon := Blk.new U2 24 #[.int .i64 0, .int .i64 0, .slice none 0 0]
        obtain ⟨bo, hbo⟩ : ∃ b, U2.heap.size = b := ⟨_, rfl⟩
        obtain ⟨U3, hW⟩ : ∃ W2, U2.alloc (.cells #[.int .i64 0, .int .i64 0, .slice none 0 0] 24) = W2 := ⟨_, rfl⟩
        have hb : Below U2.heap.size U2 U3 := alloc_below hW
        rw [hW] at kon ⊢
        rw [hbo] at kon ⊢
        have hlko := hB.size
        rw [hbo] at hlko
        replace k5 := k5.below hb k5.lt
        replace k6 := k6.below hb k6.lt
        replace k7 := k7.below hb k7.lt
        replace rowo := row_below rowo hb
        replace rowp := row_below rowp hb
        replace hB := hB.trans (hb.mono hB.size)
        have ko := kon
        clear kon hW hbo
        clear hb
        refine hK.out _ _ (fun _ => hB) ?_
        clear hK K
        try simp only [Act.put, List.setIfInBounds_toArray, List.set_cons_zero, List.set_cons_succ]
        refine step_op 5 (by kernel_rfl) rfl (fun K hK => ?_)
        rw [if_pos (by rfl)]
        go_simp
        have kpn := Blk.new U3 24 #[.int .i64 0, .int .i64 0, .slice none 0 0]
        obtain ⟨bp, hbo⟩ : ∃ b, U3.heap.size = b := ⟨_, rfl⟩
        obtain ⟨U4, hW⟩ : ∃ W2, U3.alloc (.cells #[.int .i64 0, .int .i64 0, .slice none 0 0] 24) = W2 := ⟨_, rfl⟩
        have hb : Below U3.heap.size U3 U4 := alloc_below hW
        rw [hW] at kpn ⊢
        rw [hbo] at kpn ⊢
        have hlkp := hB.size
        rw [hbo] at hlkp
        have hlne := ko.lt
        rw [hbo] at hlne
        have hne : bo ≠ bp := by omega
        clear hlne
        replace k5 := k5.below hb k5.lt
        replace k6 := k6.below hb k6.lt
        replace k7 := k7.below hb k7.lt
        replace ko := ko.below hb ko.lt
        replace rowo := row_below rowo hb
        replace rowp := row_below rowp hb
        replace hB := hB.trans (hb.mono hB.size)
        have kp := kpn
        clear kpn hW hbo
        clear hb
        refine hK.out _ _ (fun _ => hB) ?_
        clear hK K
        try simp only [Act.put, List.setIfInBounds_toArray, List.set_cons_zero, List.set_cons_succ]
        refine step_op 6 (by kernel_rfl) rfl (fun K hK => ?_)
        rw [if_pos (by rfl)]
        have z0 := ko.cell (i := 0) rfl
        have z1 := ko.cell (i := 1) rfl
        have z2 := ko.cell (i := 2) rfl
        have fz0 := ko.frozen 0
        have fz1 := ko.frozen 1
        have fz2 := ko.frozen 2
        go_simp
        clear z0 z1 z2 fz0 fz1 fz2
        have hg := put3_grown U4 bo (.int .i64 iw) (.int .i64 ih) (.slice so n co)
        have kon := put3_blk ko (.int .i64 iw) (.int .i64 ih) (.slice so n co)
        have ron := put3_row rowo (ko.not_row (by decide) rowo) (.int .i64 iw) (.int .i64 ih) (.slice so n co)
        have rpn := put3_row rowp (ko.not_row (by decide) rowp) (.int .i64 iw) (.int .i64 ih) (.slice so n co)
        replace hB := hB.trans (put3_below (n := V.heap.size) (B := bo) (by omega) (.int .i64 iw) (.int .i64 ih) (.slice so n co))
        obtain ⟨U5, hW⟩ : ∃ W2, put3 U4 bo (.int .i64 iw) (.int .i64 ih) (.slice so n co) = W2 := ⟨_, rfl⟩
        have hW' : ((U4.setCell ⟨bo, 0, none⟩ (.int .i64 iw)).setCell ⟨bo, 1, none⟩ (.int .i64 ih)).setCell ⟨bo, 2, none⟩ (.slice so n co) = U5 := hW
        rw [hW] at hg kon ron rpn hB
        rw [hW']
        clear hW hW' rowo rowp
        have rowo := ron
        have rowp := rpn
        clear ron rpn
        replace k5 := k5.kept hg (by simp <;> omega)
        replace k6 := k6.kept hg (by simp <;> omega)
        replace k7 := k7.kept hg (by simp <;> omega)
        replace kp := kp.kept hg (by simp <;> omega)
        replace ko := kon
        clear kon hg
        refine hK.out _ _ (fun _ => hB) ?_
        clear hK K
        try simp only [Act.put, List.setIfInBounds_toArray, List.set_cons_zero, List.set_cons_succ]
        refine step_op 7 (by kernel_rfl) rfl (fun K hK => ?_)
        rw [if_pos (by rfl)]
        have z0 := kp.cell (i := 0) rfl
        have z1 := kp.cell (i := 1) rfl
        have z2 := kp.cell (i := 2) rfl
        have fz0 := kp.frozen 0
        have fz1 := kp.frozen 1
        have fz2 := kp.frozen 2
        go_simp
        clear z0 z1 z2 fz0 fz1 fz2
        have hg := put3_grown U5 bp (.int .i64 jw) (.int .i64 jh) (.slice sp n' cp)
        have kpn := put3_blk kp (.int .i64 jw) (.int .i64 jh) (.slice sp n' cp)
        have ron := put3_row rowo (kp.not_row (by decide) rowo) (.int .i64 jw) (.int .i64 jh) (.slice sp n' cp)
        have rpn := put3_row rowp (kp.not_row (by decide) rowp) (.int .i64 jw) (.int .i64 jh) (.slice sp n' cp)
        replace hB := hB.trans (put3_below (n := V.heap.size) (B := bp) (by omega) (.int .i64 jw) (.int .i64 jh) (.slice sp n' cp))
        obtain ⟨U6, hW⟩ : ∃ W2, put3 U5 bp (.int .i64 jw) (.int .i64 jh) (.slice sp n' cp) = W2 := ⟨_, rfl⟩
        have hW' : ((U5.setCell ⟨bp, 0, none⟩ (.int .i64 jw)).setCell ⟨bp, 1, none⟩ (.int .i64 jh)).setCell ⟨bp, 2, none⟩ (.slice sp n' cp) = U6 := hW
        rw [hW] at hg kpn ron rpn hB
        rw [hW']
        clear hW hW' rowo rowp
        have rowo := ron
        have rowp := rpn
        clear ron rpn
        replace k5 := k5.kept hg (by simp <;> omega)
        replace k6 := k6.kept hg (by simp <;> omega)
        replace k7 := k7.kept hg (by simp <;> omega)
        replace ko := ko.kept hg (by simp <;> omega)
        replace kp := kpn
        clear kpn hg
        refine hK.out _ _ (fun _ => hB) ?_
        clear hK K
        try simp only [Act.put, List.setIfInBounds_toArray, List.set_cons_zero, List.set_cons_succ]
        refine done_ops (by kernel_rfl) ?_
        exact key so sp co cp bo bp _ ko kp rowo rowp (hBV.trans (hB.mono hBV.size)) k5 k6 k7 hlko hlkp hne
      · refine step_at 5 rfl (fun K hK => ?_)
        rw [if_pos (by rfl)]
        go_simp
        have kpn := Blk.new U2 24 #[.int .i64 0, .int .i64 0, .slice none 0 0]
        obtain ⟨bp, hbo⟩ : ∃ b, U2.heap.size = b := ⟨_, rfl⟩
        obtain ⟨U7, hW⟩ : ∃ W2, U2.alloc (.cells #[.int .i64 0, .int .i64 0, .slice none 0 0] 24) = W2 := ⟨_, rfl⟩
        have hb : Below U2.heap.size U2 U7 := alloc_below hW
        rw [hW] at kpn ⊢
        rw [hbo] at kpn ⊢
        have hlkp := hB.size
        rw [hbo] at hlkp
        replace k5 := k5.below hb k5.lt
        replace k6 := k6.below hb k6.lt
        replace k7 := k7.below hb k7.lt
        replace rowo := row_below rowo hb
        replace rowp := row_below rowp hb
        replace hB := hB.trans (hb.mono hB.size)
        have kp := kpn
        clear kpn hW hbo
        clear hb
        refine hK.out _ _ (fun _ => hB) ?_
        clear hK K
        try simp only [Act.put, List.setIfInBounds_toArray, List.set_cons_zero, List.set_cons_succ]
        refine step_op 4 (by kernel_rfl) rfl (fun K hK => ?_)
        rw [if_pos (by rfl)]
        go_simp
        have kon := Blk.new U7 24 #[.int .i64 0, .int .i64 0, .slice none 0 0]
        obtain ⟨bo, hbo⟩ : ∃ b, U7.heap.size = b := ⟨_, rfl⟩
        obtain ⟨U8, hW⟩ : ∃ W2, U7.alloc (.cells #[.int .i64 0, .int .i64 0, .slice none 0 0] 24) = W2 := ⟨_, rfl⟩
        have hb : Below U7.heap.size U7 U8 := alloc_below hW
        rw [hW] at kon ⊢
        rw [hbo] at kon ⊢
        have hlko := hB.size
        rw [hbo] at hlko
        have hlne := kp.lt
        rw [hbo] at hlne
        have hne : bo ≠ bp := by omega
        clear hlne
        replace k5 := k5.below hb k5.lt
        replace k6 := k6.below hb k6.lt
        replace k7 := k7.below hb k7.lt
        replace kp := kp.below hb kp.lt
        replace rowo := row_below rowo hb
        replace rowp := row_below rowp hb
        replace hB := hB.trans (hb.mono hB.size)
        have ko := kon
        clear kon hW hbo
        clear hb
        refine hK.out _ _ (fun _ => hB) ?_
        clear hK K
        try simp only [Act.put, List.setIfInBounds_toArray, List.set_cons_zero, List.set_cons_succ]
        refine step_op 6 (by kernel_rfl) rfl (fun K hK => ?_)
        rw [if_pos (by rfl)]
        have z0 := ko.cell (i := 0) rfl
        have z1 := ko.cell (i := 1) rfl
        have z2 := ko.cell (i := 2) rfl
        have fz0 := ko.frozen 0
        have fz1 := ko.frozen 1
        have fz2 := ko.frozen 2
        go_simp
        clear z0 z1 z2 fz0 fz1 fz2
        have hg := put3_grown U8 bo (.int .i64 iw) (.int .i64 ih) (.slice so n co)
        have kon := put3_blk ko (.int .i64 iw) (.int .i64 ih) (.slice so n co)
        have ron := put3_row rowo (ko.not_row (by decide) rowo) (.int .i64 iw) (.int .i64 ih) (.slice so n co)
        have rpn := put3_row rowp (ko.not_row (by decide) rowp) (.int .i64 iw) (.int .i64 ih) (.slice so n co)
        replace hB := hB.trans (put3_below (n := V.heap.size) (B := bo) (by omega) (.int .i64 iw) (.int .i64 ih) (.slice so n co))
        obtain ⟨U9, hW⟩ : ∃ W2, put3 U8 bo (.int .i64 iw) (.int .i64 ih) (.slice so n co) = W2 := ⟨_, rfl⟩
        have hW' : ((U8.setCell ⟨bo, 0, none⟩ (.int .i64 iw)).setCell ⟨bo, 1, none⟩ (.int .i64 ih)).setCell ⟨bo, 2, none⟩ (.slice so n co) = U9 := hW
        rw [hW] at hg kon ron rpn hB
        rw [hW']
        clear hW hW' rowo rowp
        have rowo := ron
        have rowp := rpn
        clear ron rpn
        replace k5 := k5.kept hg (by simp <;> omega)
        replace k6 := k6.kept hg (by simp <;> omega)
        replace k7 := k7.kept hg (by simp <;> omega)
        replace kp := kp.kept hg (by simp <;> omega)
        replace ko := kon
        clear kon hg
        refine hK.out _ _ (fun _ => hB) ?_
        clear hK K
        try simp only [Act.put, List.setIfInBounds_toArray, List.set_cons_zero, List.set_cons_succ]
        refine step_op 7 (by kernel_rfl) rfl (fun K hK => ?_)
        rw [if_pos (by rfl)]
        have z0 := kp.cell (i := 0) rfl
        have z1 := kp.cell (i := 1) rfl
        have z2 := kp.cell (i := 2) rfl
        have fz0 := kp.frozen 0
        have fz1 := kp.frozen 1
        have fz2 := kp.frozen 2
        go_simp
        clear z0 z1 z2 fz0 fz1 fz2
        have hg := put3_grown U9 bp (.int .i64 jw) (.int .i64 jh) (.slice sp n' cp)
        have kpn := put3_blk kp (.int .i64 jw) (.int .i64 jh) (.slice sp n' cp)
        have ron := put3_row rowo (kp.not_row (by decide) rowo) (.int .i64 jw) (.int .i64 jh) (.slice sp n' cp)
        have rpn := put3_row rowp (kp.not_row (by decide) rowp) (.int .i64 jw) (.int .i64 jh) (.slice sp n' cp)
        replace hB := hB.trans (put3_below (n := V.heap.size) (B := bp) (by omega) (.int .i64 jw) (.int .i64 jh) (.slice sp n' cp))
        obtain ⟨U10, hW⟩ : ∃ W2, put3 U9 bp (.int .i64 jw) (.int .i64 jh) (.slice sp n' cp) = W2 := ⟨_, rfl⟩
        have hW' : ((U9.setCell ⟨bp, 0, none⟩ (.int .i64 jw)).setCell ⟨bp, 1, none⟩ (.int .i64 jh)).setCell ⟨bp, 2, none⟩ (.slice sp n' cp) = U10 := hW
        rw [hW] at hg kpn ron rpn hB
        rw [hW']
        clear hW hW' rowo rowp
        have rowo := ron
        have rowp := rpn
        clear ron rpn
        replace k5 := k5.kept hg (by simp <;> omega)
        replace k6 := k6.kept hg (by simp <;> omega)
        replace k7 := k7.kept hg (by simp <;> omega)
        replace ko := ko.kept hg (by simp <;> omega)
        replace kp := kpn
        clear kpn hg
        refine hK.out _ _ (fun _ => hB) ?_
        clear hK K
        try simp only [Act.put, List.setIfInBounds_toArray, List.set_cons_zero, List.set_cons_succ]
        refine done_ops (by kernel_rfl) ?_
        exact key so sp co cp bo bp _ ko kp rowo rowp (hBV.trans (hB.mono hBV.size)) k5 k6 k7 hlko hlkp hne
    · refine step_at 4 rfl (fun K hK => ?_)
      rw [if_pos (by rfl)]
      go_simp
      have kon := Blk.new U1 24 #[.int .i64 0, .int .i64 0, .slice none 0 0]
      obtain ⟨bo, hbo⟩ : ∃ b, U1.heap.size = b := ⟨_, rfl⟩
      obtain ⟨U11, hW⟩ : ∃ W2, U1.alloc (.cells #[.int .i64 0, .int .i64 0, .slice none 0 0] 24) = W2 := ⟨_, rfl⟩
      have hb : Below U1.heap.size U1 U11 := alloc_below hW
      rw [hW] at kon ⊢
      rw [hbo] at kon ⊢
      have hlko := hB.size
      rw [hbo] at hlko
      replace k5 := k5.below hb k5.lt
      replace k6 := k6.below hb k6.lt
      replace k7 := k7.below hb k7.lt
      replace rowo := row_below rowo hb
      replace hB := hB.trans (hb.mono hB.size)
      have ko := kon
      clear kon hW hbo
      clear hb
      refine hK.out _ _ (fun _ => hB) ?_
      clear hK K
      try simp only [Act.put, List.setIfInBounds_toArray, List.set_cons_zero, List.set_cons_succ]
      refine fork2 (i := 3) (j := 5) (by kernel_rfl) ?_ ?_
      · refine step_at 3 rfl (fun K hK => ?_)
        rw [if_pos (by rfl)]
        go_simp
        refine (Twin_any jw jh a' c' n' ys hn' _ hm' ((hr'.below (Nat.le_refl _) (hBV.trans (hB.mono hBV.size))).mono (Nat.le_trans hBV.size hB.size)) hnil').mono ?_
        rintro e U12 ⟨v, rfl, ⟨sl, rfl, hrow⟩, hb⟩
        obtain ⟨sp, cp, rfl⟩ := row_slice hrow
        rw [hn'.out] at hrow ⊢
        have rowpn := row_base hrow hB.size
        clear hrow
        replace k5 := k5.below hb k5.lt
        replace k6 := k6.below hb k6.lt
        replace k7 := k7.below hb k7.lt
        replace ko := ko.below hb ko.lt
        replace rowo := row_below rowo hb
        replace hB := hB.trans (hb.mono hB.size)
        have rowp := rowpn
        clear rowpn
        clear hb
        refine hK.out _ _ (fun _ => hB) ?_
        clear hK K
        try simp only [Act.put, List.setIfInBounds_toArray, List.set_cons_zero, List.set_cons_succ]
        refine step_op 5 (by kernel_rfl) rfl (fun K hK => ?_)
        rw [if_pos (by rfl)]
        go_simp
        have kpn := Blk.new U12 24 #[.int .i64 0, .int .i64 0, .slice none 0 0]
        obtain ⟨bp, hbo⟩ : ∃ b, U12.heap.size = b := ⟨_, rfl⟩
        obtain ⟨U13, hW⟩ : ∃ W2, U12.alloc (.cells #[.int .i64 0, .int .i64 0, .slice none 0 0] 24) = W2 := ⟨_, rfl⟩
        have hb : Below U12.heap.size U12 U13 := alloc_below hW
        rw [hW] at kpn ⊢
        rw [hbo] at kpn ⊢
        have hlkp := hB.size
        rw [hbo] at hlkp
        have hlne := ko.lt
        rw [hbo] at hlne
        have hne : bo ≠ bp := by omega
        clear hlne
        replace k5 := k5.below hb k5.lt
        replace k6 := k6.below hb k6.lt
        replace k7 := k7.below hb k7.lt
        replace ko := ko.below hb ko.lt
        replace rowo := row_below rowo hb
        replace rowp := row_below rowp hb
        replace hB := hB.trans (hb.mono hB.size)
        have kp := kpn
        clear kpn hW hbo
        clear hb
        refine hK.out _ _ (fun _ => hB) ?_
        clear hK K
        try simp only [Act.put, List.setIfInBounds_toArray, List.set_cons_zero, List.set_cons_succ]
        refine step_op 6 (by kernel_rfl) rfl (fun K hK => ?_)
        rw [if_pos (by rfl)]
        have z0 := ko.cell (i := 0) rfl
        have z1 := ko.cell (i := 1) rfl
        have z2 := ko.cell (i := 2) rfl
        have fz0 := ko.frozen 0
        have fz1 := ko.frozen 1
        have fz2 := ko.frozen 2
        go_simp
        clear z0 z1 z2 fz0 fz1 fz2
        have hg := put3_grown U13 bo (.int .i64 iw) (.int .i64 ih) (.slice so n co)
        have kon := put3_blk ko (.int .i64 iw) (.int .i64 ih) (.slice so n co)
        have ron := put3_row rowo (ko.not_row (by decide) rowo) (.int .i64 iw) (.int .i64 ih) (.slice so n co)
        have rpn := put3_row rowp (ko.not_row (by decide) rowp) (.int .i64 iw) (.int .i64 ih) (.slice so n co)
        replace hB := hB.trans (put3_below (n := V.heap.size) (B := bo) (by omega) (.int .i64 iw) (.int .i64 ih) (.slice so n co))
        obtain ⟨U14, hW⟩ : ∃ W2, put3 U13 bo (.int .i64 iw) (.int .i64 ih) (.slice so n co) = W2 := ⟨_, rfl⟩
        have hW' : ((U13.setCell ⟨bo, 0, none⟩ (.int .i64 iw)).setCell ⟨bo, 1, none⟩ (.int .i64 ih)).setCell ⟨bo, 2, none⟩ (.slice so n co) = U14 := hW
        rw [hW] at hg kon ron rpn hB
        rw [hW']
        clear hW hW' rowo rowp
        have rowo := ron
        have rowp := rpn
        clear ron rpn
        replace k5 := k5.kept hg (by simp <;> omega)
        replace k6 := k6.kept hg (by simp <;> omega)
        replace k7 := k7.kept hg (by simp <;> omega)
        replace kp := kp.kept hg (by simp <;> omega)
        replace ko := kon
        clear kon hg
        refine hK.out _ _ (fun _ => hB) ?_
        clear hK K
        try simp only [Act.put, List.setIfInBounds_toArray, List.set_cons_zero, List.set_cons_succ]
        refine step_op 7 (by kernel_rfl) rfl (fun K hK => ?_)
        rw [if_pos (by rfl)]
        have z0 := kp.cell (i := 0) rfl
        have z1 := kp.cell (i := 1) rfl
        have z2 := kp.cell (i := 2) rfl
        have fz0 := kp.frozen 0
        have fz1 := kp.frozen 1
        have fz2 := kp.frozen 2
        go_simp
        clear z0 z1 z2 fz0 fz1 fz2
        have hg := put3_grown U14 bp (.int .i64 jw) (.int .i64 jh) (.slice sp n' cp)
        have kpn := put3_blk kp (.int .i64 jw) (.int .i64 jh) (.slice sp n' cp)
        have ron := put3_row rowo (kp.not_row (by decide) rowo) (.int .i64 jw) (.int .i64 jh) (.slice sp n' cp)
        have rpn := put3_row rowp (kp.not_row (by decide) rowp) (.int .i64 jw) (.int .i64 jh) (.slice sp n' cp)
        replace hB := hB.trans (put3_below (n := V.heap.size) (B := bp) (by omega) (.int .i64 jw) (.int .i64 jh) (.slice sp n' cp))
        obtain ⟨U15, hW⟩ : ∃ W2, put3 U14 bp (.int .i64 jw) (.int .i64 jh) (.slice sp n' cp) = W2 := ⟨_, rfl⟩
        have hW' : ((U14.setCell ⟨bp, 0, none⟩ (.int .i64 jw)).setCell ⟨bp, 1, none⟩ (.int .i64 jh)).setCell ⟨bp, 2, none⟩ (.slice sp n' cp) = U15 := hW
        rw [hW] at hg kpn ron rpn hB
        rw [hW']
        clear hW hW' rowo rowp
        have rowo := ron
        have rowp := rpn
        clear ron rpn
        replace k5 := k5.kept hg (by simp <;> omega)
        replace k6 := k6.kept hg (by simp <;> omega)
        replace k7 := k7.kept hg (by simp <;> omega)
        replace ko := ko.kept hg (by simp <;> omega)
        replace kp := kpn
        clear kpn hg
        refine hK.out _ _ (fun _ => hB) ?_
        clear hK K
        try simp only [Act.put, List.setIfInBounds_toArray, List.set_cons_zero, List.set_cons_succ]
        refine done_ops (by kernel_rfl) ?_
        exact key so sp co cp bo bp _ ko kp rowo rowp (hBV.trans (hB.mono hBV.size)) k5 k6 k7 hlko hlkp hne
      · refine step_at 5 rfl (fun K hK => ?_)
        rw [if_pos (by rfl)]
        go_simp
        have kpn := Blk.new U11 24 #[.int .i64 0, .int .i64 0, .slice none 0 0]
        obtain ⟨bp, hbo⟩ : ∃ b, U11.heap.size = b := ⟨_, rfl⟩
        obtain ⟨U16, hW⟩ : ∃ W2, U11.alloc (.cells #[.int .i64 0, .int .i64 0, .slice none 0 0] 24) = W2 := ⟨_, rfl⟩
        have hb : Below U11.heap.size U11 U16 := alloc_below hW
        rw [hW] at kpn ⊢
        rw [hbo] at kpn ⊢
        have hlkp := hB.size
        rw [hbo] at hlkp
        have hlne := ko.lt
        rw [hbo] at hlne
        have hne : bo ≠ bp := by omega
        clear hlne
        replace k5 := k5.below hb k5.lt
        replace k6 := k6.below hb k6.lt
        replace k7 := k7.below hb k7.lt
        replace ko := ko.below hb ko.lt
        replace rowo := row_below rowo hb
        replace hB := hB.trans (hb.mono hB.size)
        have kp := kpn
        clear kpn hW hbo
        clear hb
        refine hK.out _ _ (fun _ => hB) ?_
        clear hK K
        try simp only [Act.put, List.setIfInBounds_toArray, List.set_cons_zero, List.set_cons_succ]
        refine step_op 3 (by kernel_rfl) rfl (fun K hK => ?_)
        rw [if_pos (by rfl)]
        go_simp
        refine (Twin_any jw jh a' c' n' ys hn' _ hm' ((hr'.below (Nat.le_refl _) (hBV.trans (hB.mono hBV.size))).mono (Nat.le_trans hBV.size hB.size)) hnil').mono ?_
        rintro e U17 ⟨v, rfl, ⟨sl, rfl, hrow⟩, hb⟩
        obtain ⟨sp, cp, rfl⟩ := row_slice hrow
        rw [hn'.out] at hrow ⊢
        have rowpn := row_base hrow hB.size
        clear hrow
        replace k5 := k5.below hb k5.lt
        replace k6 := k6.below hb k6.lt
        replace k7 := k7.below hb k7.lt
        replace ko := ko.below hb ko.lt
        replace kp := kp.below hb kp.lt
        replace rowo := row_below rowo hb
        replace hB := hB.trans (hb.mono hB.size)
        have rowp := rowpn
        clear rowpn
        clear hb
        refine hK.out _ _ (fun _ => hB) ?_
        clear hK K
        try simp only [Act.put, List.setIfInBounds_toArray, List.set_cons_zero, List.set_cons_succ]
        refine step_op 6 (by kernel_rfl) rfl (fun K hK => ?_)
        rw [if_pos (by rfl)]
        have z0 := ko.cell (i := 0) rfl
        have z1 := ko.cell (i := 1) rfl
        have z2 := ko.cell (i := 2) rfl
        have fz0 := ko.frozen 0
        have fz1 := ko.frozen 1
        have fz2 := ko.frozen 2
        go_simp
        clear z0 z1 z2 fz0 fz1 fz2
        have hg := put3_grown U17 bo (.int .i64 iw) (.int .i64 ih) (.slice so n co)
        have kon := put3_blk ko (.int .i64 iw) (.int .i64 ih) (.slice so n co)
        have ron := put3_row rowo (ko.not_row (by decide) rowo) (.int .i64 iw) (.int .i64 ih) (.slice so n co)
        have rpn := put3_row rowp (ko.not_row (by decide) rowp) (.int .i64 iw) (.int .i64 ih) (.slice so n co)
        replace hB := hB.trans (put3_below (n := V.heap.size) (B := bo) (by omega) (.int .i64 iw) (.int .i64 ih) (.slice so n co))
        obtain ⟨U18, hW⟩ : ∃ W2, put3 U17 bo (.int .i64 iw) (.int .i64 ih) (.slice so n co) = W2 := ⟨_, rfl⟩
        have hW' : ((U17.setCell ⟨bo, 0, none⟩ (.int .i64 iw)).setCell ⟨bo, 1, none⟩ (.int .i64 ih)).setCell ⟨bo, 2, none⟩ (.slice so n co) = U18 := hW
        rw [hW] at hg kon ron rpn hB
        rw [hW']
        clear hW hW' rowo rowp
        have rowo := ron
        have rowp := rpn
        clear ron rpn
        replace k5 := k5.kept hg (by simp <;> omega)
        replace k6 := k6.kept hg (by simp <;> omega)
        replace k7 := k7.kept hg (by simp <;> omega)
        replace kp := kp.kept hg (by simp <;> omega)
        replace ko := kon
        clear kon hg
        refine hK.out _ _ (fun _ => hB) ?_
        clear hK K
        try simp only [Act.put, List.setIfInBounds_toArray, List.set_cons_zero, List.set_cons_succ]
        refine step_op 7 (by kernel_rfl) rfl (fun K hK => ?_)
        rw [if_pos (by rfl)]
        have z0 := kp.cell (i := 0) rfl
        have z1 := kp.cell (i := 1) rfl
        have z2 := kp.cell (i := 2) rfl
        have fz0 := kp.frozen 0
        have fz1 := kp.frozen 1
        have fz2 := kp.frozen 2
        go_simp
        clear z0 z1 z2 fz0 fz1 fz2
        have hg := put3_grown U18 bp (.int .i64 jw) (.int .i64 jh) (.slice sp n' cp)
        have kpn := put3_blk kp (.int .i64 jw) (.int .i64 jh) (.slice sp n' cp)
        have ron := put3_row rowo (kp.not_row (by decide) rowo) (.int .i64 jw) (.int .i64 jh) (.slice sp n' cp)
        have rpn := put3_row rowp (kp.not_row (by decide) rowp) (.int .i64 jw) (.int .i64 jh) (.slice sp n' cp)
        replace hB := hB.trans (put3_below (n := V.heap.size) (B := bp) (by omega) (.int .i64 jw) (.int .i64 jh) (.slice sp n' cp))
        obtain ⟨U19, hW⟩ : ∃ W2, put3 U18 bp (.int .i64 jw) (.int .i64 jh) (.slice sp n' cp) = W2 := ⟨_, rfl⟩
        have hW' : ((U18.setCell ⟨bp, 0, none⟩ (.int .i64 jw)).setCell ⟨bp, 1, none⟩ (.int .i64 jh)).setCell ⟨bp, 2, none⟩ (.slice sp n' cp) = U19 := hW
        rw [hW] at hg kpn ron rpn hB
        rw [hW']
        clear hW hW' rowo rowp
        have rowo := ron
        have rowp := rpn
        clear ron rpn
        replace k5 := k5.kept hg (by simp <;> omega)
        replace k6 := k6.kept hg (by simp <;> omega)
        replace k7 := k7.kept hg (by simp <;> omega)
        replace ko := ko.kept hg (by simp <;> omega)
        replace kp := kpn
        clear kpn hg
        refine hK.out _ _ (fun _ => hB) ?_
        clear hK K
        try simp only [Act.put, List.setIfInBounds_toArray, List.set_cons_zero, List.set_cons_succ]
        refine done_ops (by kernel_rfl) ?_
        exact key so sp co cp bo bp _ ko kp rowo rowp (hBV.trans (hB.mono hBV.size)) k5 k6 k7 hlko hlkp hne
    · refine step_at 5 rfl (fun K hK => ?_)
      rw [if_pos (by rfl)]
      go_simp
      have kpn := Blk.new U1 24 #[.int .i64 0, .int .i64 0, .slice none 0 0]
      obtain ⟨bp, hbo⟩ : ∃ b, U1.heap.size = b := ⟨_, rfl⟩
      obtain ⟨U20, hW⟩ : ∃ W2, U1.alloc (.cells #[.int .i64 0, .int .i64 0, .slice none 0 0] 24) = W2 := ⟨_, rfl⟩
      have hb : Below U1.heap.size U1 U20 := alloc_below hW
      rw [hW] at kpn ⊢
      rw [hbo] at kpn ⊢
      have hlkp := hB.size
      rw [hbo] at hlkp
      replace k5 := k5.below hb k5.lt
      replace k6 := k6.below hb k6.lt
      replace k7 := k7.below hb k7.lt
      replace rowo := row_below rowo hb
      replace hB := hB.trans (hb.mono hB.size)
      have kp := kpn
      clear kpn hW hbo
      clear hb
      refine hK.out _ _ (fun _ => hB) ?_
      clear hK K
      try simp only [Act.put, List.setIfInBounds_toArray, List.set_cons_zero, List.set_cons_succ]
      refine fork2 (i := 3) (j := 4) (by kernel_rfl) ?_ ?_
      · refine step_at 3 rfl (fun K hK => ?_)
        rw [if_pos (by rfl)]
        go_simp
        refine (Twin_any jw jh a' c' n' ys hn' _ hm' ((hr'.below (Nat.le_refl _) (hBV.trans (hB.mono hBV.size))).mono (Nat.le_trans hBV.size hB.size)) hnil').mono ?_
        rintro e U21 ⟨v, rfl, ⟨sl, rfl, hrow⟩, hb⟩
        obtain ⟨sp, cp, rfl⟩ := row_slice hrow
        rw [hn'.out] at hrow ⊢
        have rowpn := row_base hrow hB.size
        clear hrow
        replace k5 := k5.below hb k5.lt
        replace k6 := k6.below hb k6.lt
        replace k7 := k7.below hb k7.lt
        replace kp := kp.below hb kp.lt
        replace rowo := row_below rowo hb
        replace hB := hB.trans (hb.mono hB.size)
        have rowp := rowpn
        clear rowpn
        clear hb
        refine hK.out _ _ (fun _ => hB) ?_
        clear hK K
        try simp only [Act.put, List.setIfInBounds_toArray, List.set_cons_zero, List.set_cons_succ]
        refine step_op 4 (by kernel_rfl) rfl (fun K hK => ?_)
        rw [if_pos (by rfl)]
        go_simp
        have kon := Blk.new U21 24 #[.int .i64 0, .int .i64 0, .slice none 0 0]
        obtain ⟨bo, hbo⟩ : ∃ b, U21.heap.size = b := ⟨_, rfl⟩
        obtain ⟨U22, hW⟩ : ∃ W2, U21.alloc (.cells #[.int .i64 0, .int .i64 0, .slice none 0 0] 24) = W2 := ⟨_, rfl⟩
        have hb : Below U21.heap.size U21 U22 := alloc_below hW
        rw [hW] at kon ⊢
        rw [hbo] at kon ⊢
        have hlko := hB.size
        rw [hbo] at hlko
        have hlne := kp.lt
        rw [hbo] at hlne
        have hne : bo ≠ bp := by omega
        clear hlne
        replace k5 := k5.below hb k5.lt
        replace k6 := k6.below hb k6.lt
        replace k7 := k7.below hb k7.lt
        replace kp := kp.below hb kp.lt
        replace rowo := row_below rowo hb
        replace rowp := row_below rowp hb
        replace hB := hB.trans (hb.mono hB.size)
        have ko := kon
        clear kon hW hbo
        clear hb
        refine hK.out _ _ (fun _ => hB) ?_
        clear hK K
        try simp only [Act.put, List.setIfInBounds_toArray, List.set_cons_zero, List.set_cons_succ]
        refine step_op 6 (by kernel_rfl) rfl (fun K hK => ?_)
        rw [if_pos (by rfl)]
        have z0 := ko.cell (i := 0) rfl
        have z1 := ko.cell (i := 1) rfl
        have z2 := ko.cell (i := 2) rfl
        have fz0 := ko.frozen 0
        have fz1 := ko.frozen 1
        have fz2 := ko.frozen 2
        go_simp
        clear z0 z1 z2 fz0 fz1 fz2
        have hg := put3_grown U22 bo (.int .i64 iw) (.int .i64 ih) (.slice so n co)
        have kon := put3_blk ko (.int .i64 iw) (.int .i64 ih) (.slice so n co)
        have ron := put3_row rowo (ko.not_row (by decide) rowo) (.int .i64 iw) (.int .i64 ih) (.slice so n co)
        have rpn := put3_row rowp (ko.not_row (by decide) rowp) (.int .i64 iw) (.int .i64 ih) (.slice so n co)
        replace hB := hB.trans (put3_below (n := V.heap.size) (B := bo) (by omega) (.int .i64 iw) (.int .i64 ih) (.slice so n co))
        obtain ⟨U23, hW⟩ : ∃ W2, put3 U22 bo (.int .i64 iw) (.int .i64 ih) (.slice so n co) = W2 := ⟨_, rfl⟩
        have hW' : ((U22.setCell ⟨bo, 0, none⟩ (.int .i64 iw)).setCell ⟨bo, 1, none⟩ (.int .i64 ih)).setCell ⟨bo, 2, none⟩ (.slice so n co) = U23 := hW
        rw [hW] at hg kon ron rpn hB
        rw [hW']
        clear hW hW' rowo rowp
        have rowo := ron
        have rowp := rpn
        clear ron rpn
        replace k5 := k5.kept hg (by simp <;> omega)
        replace k6 := k6.kept hg (by simp <;> omega)
        replace k7 := k7.kept hg (by simp <;> omega)
        replace kp := kp.kept hg (by simp <;> omega)
        replace ko := kon
        clear kon hg
        refine hK.out _ _ (fun _ => hB) ?_
        clear hK K
        try simp only [Act.put, List.setIfInBounds_toArray, List.set_cons_zero, List.set_cons_succ]
        refine step_op 7 (by kernel_rfl) rfl (fun K hK => ?_)
        rw [if_pos (by rfl)]
        have z0 := kp.cell (i := 0) rfl
        have z1 := kp.cell (i := 1) rfl
        have z2 := kp.cell (i := 2) rfl
        have fz0 := kp.frozen 0
        have fz1 := kp.frozen 1
        have fz2 := kp.frozen 2
        go_simp
        clear z0 z1 z2 fz0 fz1 fz2
        have hg := put3_grown U23 bp (.int .i64 jw) (.int .i64 jh) (.slice sp n' cp)
        have kpn := put3_blk kp (.int .i64 jw) (.int .i64 jh) (.slice sp n' cp)
        have ron := put3_row rowo (kp.not_row (by decide) rowo) (.int .i64 jw) (.int .i64 jh) (.slice sp n' cp)
        have rpn := put3_row rowp (kp.not_row (by decide) rowp) (.int .i64 jw) (.int .i64 jh) (.slice sp n' cp)
        replace hB := hB.trans (put3_below (n := V.heap.size) (B := bp) (by omega) (.int .i64 jw) (.int .i64 jh) (.slice sp n' cp))
        obtain ⟨U24, hW⟩ : ∃ W2, put3 U23 bp (.int .i64 jw) (.int .i64 jh) (.slice sp n' cp) = W2 := ⟨_, rfl⟩
        have hW' : ((U23.setCell ⟨bp, 0, none⟩ (.int .i64 jw)).setCell ⟨bp, 1, none⟩ (.int .i64 jh)).setCell ⟨bp, 2, none⟩ (.slice sp n' cp) = U24 := hW
        rw [hW] at hg kpn ron rpn hB
        rw [hW']
        clear hW hW' rowo rowp
        have rowo := ron
        have rowp := rpn
        clear ron rpn
        replace k5 := k5.kept hg (by simp <;> omega)
        replace k6 := k6.kept hg (by simp <;> omega)
        replace k7 := k7.kept hg (by simp <;> omega)
        replace ko := ko.kept hg (by simp <;> omega)
        replace kp := kpn
        clear kpn hg
        refine hK.out _ _ (fun _ => hB) ?_
        clear hK K
        try simp only [Act.put, List.setIfInBounds_toArray, List.set_cons_zero, List.set_cons_succ]
        refine done_ops (by kernel_rfl) ?_
        exact key so sp co cp bo bp _ ko kp rowo rowp (hBV.trans (hB.mono hBV.size)) k5 k6 k7 hlko hlkp hne
      · refine step_at 4 rfl (fun K hK => ?_)
        rw [if_pos (by rfl)]
        go_simp
        have kon := Blk.new U20 24 #[.int .i64 0, .int .i64 0, .slice none 0 0]
        obtain ⟨bo, hbo⟩ : ∃ b, U20.heap.size = b := ⟨_, rfl⟩
        obtain ⟨U25, hW⟩ : ∃ W2, U20.alloc (.cells #[.int .i64 0, .int .i64 0, .slice none 0 0] 24) = W2 := ⟨_, rfl⟩
        have hb : Below U20.heap.size U20 U25 := alloc_below hW
        rw [hW] at kon ⊢
        rw [hbo] at kon ⊢
        have hlko := hB.size
        rw [hbo] at hlko
        have hlne := kp.lt
        rw [hbo] at hlne
        have hne : bo ≠ bp := by omega
        clear hlne
        replace k5 := k5.below hb k5.lt
        replace k6 := k6.below hb k6.lt
        replace k7 := k7.below hb k7.lt
        replace kp := kp.below hb kp.lt
        replace rowo := row_below rowo hb
        replace hB := hB.trans (hb.mono hB.size)
        have ko := kon
        clear kon hW hbo
        clear hb
        refine hK.out _ _ (fun _ => hB) ?_
        clear hK K
        try simp only [Act.put, List.setIfInBounds_toArray, List.set_cons_zero, List.set_cons_succ]
        refine step_op 3 (by kernel_rfl) rfl (fun K hK => ?_)
        rw [if_pos (by rfl)]
        go_simp
        refine (Twin_any jw jh a' c' n' ys hn' _ hm' ((hr'.below (Nat.le_refl _) (hBV.trans (hB.mono hBV.size))).mono (Nat.le_trans hBV.size hB.size)) hnil').mono ?_
        rintro e U26 ⟨v, rfl, ⟨sl, rfl, hrow⟩, hb⟩
        obtain ⟨sp, cp, rfl⟩ := row_slice hrow
        rw [hn'.out] at hrow ⊢
        have rowpn := row_base hrow hB.size
        clear hrow
        replace k5 := k5.below hb k5.lt
        replace k6 := k6.below hb k6.lt
        replace k7 := k7.below hb k7.lt
        replace ko := ko.below hb ko.lt
        replace kp := kp.below hb kp.lt
        replace rowo := row_below rowo hb
        replace hB := hB.trans (hb.mono hB.size)
        have rowp := rowpn
        clear rowpn
        clear hb
        refine hK.out _ _ (fun _ => hB) ?_
        clear hK K
        try simp only [Act.put, List.setIfInBounds_toArray, List.set_cons_zero, List.set_cons_succ]
        refine step_op 6 (by kernel_rfl) rfl (fun K hK => ?_)
        rw [if_pos (by rfl)]
        have z0 := ko.cell (i := 0) rfl
        have z1 := ko.cell (i := 1) rfl
        have z2 := ko.cell (i := 2) rfl
        have fz0 := ko.frozen 0
        have fz1 := ko.frozen 1
        have fz2 := ko.frozen 2
        go_simp
        clear z0 z1 z2 fz0 fz1 fz2
        have hg := put3_grown U26 bo (.int .i64 iw) (.int .i64 ih) (.slice so n co)
        have kon := put3_blk ko (.int .i64 iw) (.int .i64 ih) (.slice so n co)
        have ron := put3_row rowo (ko.not_row (by decide) rowo) (.int .i64 iw) (.int .i64 ih) (.slice so n co)
        have rpn := put3_row rowp (ko.not_row (by decide) rowp) (.int .i64 iw) (.int .i64 ih) (.slice so n co)
        replace hB := hB.trans (put3_below (n := V.heap.size) (B := bo) (by omega) (.int .i64 iw) (.int .i64 ih) (.slice so n co))
        obtain ⟨U27, hW⟩ : ∃ W2, put3 U26 bo (.int .i64 iw) (.int .i64 ih) (.slice so n co) = W2 := ⟨_, rfl⟩
        have hW' : ((U26.setCell ⟨bo, 0, none⟩ (.int .i64 iw)).setCell ⟨bo, 1, none⟩ (.int .i64 ih)).setCell ⟨bo, 2, none⟩ (.slice so n co) = U27 := hW
        rw [hW] at hg kon ron rpn hB
        rw [hW']
        clear hW hW' rowo rowp
        have rowo := ron
        have rowp := rpn
        clear ron rpn
        replace k5 := k5.kept hg (by simp <;> omega)
        replace k6 := k6.kept hg (by simp <;> omega)
        replace k7 := k7.kept hg (by simp <;> omega)
        replace kp := kp.kept hg (by simp <;> omega)
        replace ko := kon
        clear kon hg
        refine hK.out _ _ (fun _ => hB) ?_
        clear hK K
        try simp only [Act.put, List.setIfInBounds_toArray, List.set_cons_zero, List.set_cons_succ]
        refine step_op 7 (by kernel_rfl) rfl (fun K hK => ?_)
        rw [if_pos (by rfl)]
        have z0 := kp.cell (i := 0) rfl
        have z1 := kp.cell (i := 1) rfl
        have z2 := kp.cell (i := 2) rfl
        have fz0 := kp.frozen 0
        have fz1 := kp.frozen 1
        have fz2 := kp.frozen 2
        go_simp
        clear z0 z1 z2 fz0 fz1 fz2
        have hg := put3_grown U27 bp (.int .i64 jw) (.int .i64 jh) (.slice sp n' cp)
        have kpn := put3_blk kp (.int .i64 jw) (.int .i64 jh) (.slice sp n' cp)
        have ron := put3_row rowo (kp.not_row (by decide) rowo) (.int .i64 jw) (.int .i64 jh) (.slice sp n' cp)
        have rpn := put3_row rowp (kp.not_row (by decide) rowp) (.int .i64 jw) (.int .i64 jh) (.slice sp n' cp)
        replace hB := hB.trans (put3_below (n := V.heap.size) (B := bp) (by omega) (.int .i64 jw) (.int .i64 jh) (.slice sp n' cp))
        obtain ⟨U28, hW⟩ : ∃ W2, put3 U27 bp (.int .i64 jw) (.int .i64 jh) (.slice sp n' cp) = W2 := ⟨_, rfl⟩
        have hW' : ((U27.setCell ⟨bp, 0, none⟩ (.int .i64 jw)).setCell ⟨bp, 1, none⟩ (.int .i64 jh)).setCell ⟨bp, 2, none⟩ (.slice sp n' cp) = U28 := hW
        rw [hW] at hg kpn ron rpn hB
        rw [hW']
        clear hW hW' rowo rowp
        have rowo := ron
        have rowp := rpn
        clear ron rpn
        replace k5 := k5.kept hg (by simp <;> omega)
        replace k6 := k6.kept hg (by simp <;> omega)
        replace k7 := k7.kept hg (by simp <;> omega)
        replace ko := ko.kept hg (by simp <;> omega)
        replace kp := kpn
        clear kpn hg
        refine hK.out _ _ (fun _ => hB) ?_
        clear hK K
        try simp only [Act.put, List.setIfInBounds_toArray, List.set_cons_zero, List.set_cons_succ]
        refine done_ops (by kernel_rfl) ?_
        exact key so sp co cp bo bp _ ko kp rowo rowp (hBV.trans (hB.mono hBV.size)) k5 k6 k7 hlko hlkp hne
  · refine step_at 4 rfl (fun K hK => ?_)
    rw [if_pos (by rfl)]
    go_simp
    have kon := Blk.new V0 24 #[.int .i64 0, .int .i64 0, .slice none 0 0]
    obtain ⟨bo, hbo⟩ : ∃ b, V0.heap.size = b := ⟨_, rfl⟩
    obtain ⟨U29, hW⟩ : ∃ W2, V0.alloc (.cells #[.int .i64 0, .int .i64 0, .slice none 0 0] 24) = W2 := ⟨_, rfl⟩
    have hb : Below V0.heap.size V0 U29 := alloc_below hW
    rw [hW] at kon ⊢
    rw [hbo] at kon ⊢
    have hlko := hB.size
    rw [hbo] at hlko
    replace k5 := k5.below hb k5.lt
    replace k6 := k6.below hb k6.lt
    replace k7 := k7.below hb k7.lt
    replace hB := hB.trans (hb.mono hB.size)
    have ko := kon
    clear kon hW hbo
    clear hb
    refine hK.out _ _ (fun _ => hB) ?_
    clear hK K
    try simp only [Act.put, List.setIfInBounds_toArray, List.set_cons_zero, List.set_cons_succ]
    refine fork2 (i := 1) (j := 5) (by kernel_rfl) ?_ ?_
    · refine step_at 1 rfl (fun K hK => ?_)
      rw [if_pos (by rfl)]
      go_simp
      refine (Twin_any iw ih a c n xs hn _ hm ((hr.below (Nat.le_refl _) (hBV.trans (hB.mono hBV.size))).mono (Nat.le_trans hBV.size hB.size)) hnil).mono ?_
      rintro e U30 ⟨v, rfl, ⟨sl, rfl, hrow⟩, hb⟩
      obtain ⟨so, co, rfl⟩ := row_slice hrow
      rw [hn.out] at hrow ⊢
      have rowon := row_base hrow hB.size
      clear hrow
      replace k5 := k5.below hb k5.lt
      replace k6 := k6.below hb k6.lt
      replace k7 := k7.below hb k7.lt
      replace ko := ko.below hb ko.lt
      replace hB := hB.trans (hb.mono hB.size)
      have rowo := rowon
      clear rowon
      clear hb
      refine hK.out _ _ (fun _ => hB) ?_
      clear hK K
      try simp only [Act.put, List.setIfInBounds_toArray, List.set_cons_zero, List.set_cons_succ]
      refine fork2 (i := 3) (j := 5) (by kernel_rfl) ?_ ?_
      · refine step_at 3 rfl (fun K hK => ?_)
        rw [if_pos (by rfl)]
        go_simp
        refine (Twin_any jw jh a' c' n' ys hn' _ hm' ((hr'.below (Nat.le_refl _) (hBV.trans (hB.mono hBV.size))).mono (Nat.le_trans hBV.size hB.size)) hnil').mono ?_
        rintro e U31 ⟨v, rfl, ⟨sl, rfl, hrow⟩, hb⟩
        obtain ⟨sp, cp, rfl⟩ := row_slice hrow
        rw [hn'.out] at hrow ⊢
        have rowpn := row_base hrow hB.size
        clear hrow
        replace k5 := k5.below hb k5.lt
        replace k6 := k6.below hb k6.lt
        replace k7 := k7.below hb k7.lt
        replace ko := ko.below hb ko.lt
        replace rowo := row_below rowo hb
        replace hB := hB.trans (hb.mono hB.size)
        have rowp := rowpn
        clear rowpn
        clear hb
        refine hK.out _ _ (fun _ => hB) ?_
        clear hK K
        try simp only [Act.put, List.setIfInBounds_toArray, List.set_cons_zero, List.set_cons_succ]
        refine step_op 5 (by kernel_rfl) rfl (fun K hK => ?_)
        rw [if_pos (by rfl)]
        go_simp
        have kpn := Blk.new U31 24 #[.int .i64 0, .int .i64 0, .slice none 0 0]
        obtain ⟨bp, hbo⟩ : ∃ b, U31.heap.size = b := ⟨_, rfl⟩
        obtain ⟨U32, hW⟩ : ∃ W2, U31.alloc (.cells #[.int .i64 0, .int .i64 0, .slice none 0 0] 24) = W2 := ⟨_, rfl⟩
        have hb : Below U31.heap.size U31 U32 := alloc_below hW
        rw [hW] at kpn ⊢
        rw [hbo] at kpn ⊢
        have hlkp := hB.size
        rw [hbo] at hlkp
        have hlne := ko.lt
        rw [hbo] at hlne
        have hne : bo ≠ bp := by omega
        clear hlne
        replace k5 := k5.below hb k5.lt
        replace k6 := k6.below hb k6.lt
        replace k7 := k7.below hb k7.lt
        replace ko := ko.below hb ko.lt
        replace rowo := row_below rowo hb
        replace rowp := row_below rowp hb
        replace hB := hB.trans (hb.mono hB.size)
        have kp := kpn
        clear kpn hW hbo
        clear hb
        refine hK.out _ _ (fun _ => hB) ?_
        clear hK K
        try simp only [Act.put, List.setIfInBounds_toArray, List.set_cons_zero, List.set_cons_succ]
        refine step_op 6 (by kernel_rfl) rfl (fun K hK => ?_)
        rw [if_pos (by rfl)]
        have z0 := ko.cell (i := 0) rfl
        have z1 := ko.cell (i := 1) rfl
        have z2 := ko.cell (i := 2) rfl
        have fz0 := ko.frozen 0
        have fz1 := ko.frozen 1
        have fz2 := ko.frozen 2
        go_simp
        clear z0 z1 z2 fz0 fz1 fz2
        have hg := put3_grown U32 bo (.int .i64 iw) (.int .i64 ih) (.slice so n co)
        have kon := put3_blk ko (.int .i64 iw) (.int .i64 ih) (.slice so n co)
        have ron := put3_row rowo (ko.not_row (by decide) rowo) (.int .i64 iw) (.int .i64 ih) (.slice so n co)
        have rpn := put3_row rowp (ko.not_row (by decide) rowp) (.int .i64 iw) (.int .i64 ih) (.slice so n co)
        replace hB := hB.trans (put3_below (n := V.heap.size) (B := bo) (by omega) (.int .i64 iw) (.int .i64 ih) (.slice so n co))
        obtain ⟨U33, hW⟩ : ∃ W2, put3 U32 bo (.int .i64 iw) (.int .i64 ih) (.slice so n co) = W2 := ⟨_, rfl⟩
        have hW' : ((U32.setCell ⟨bo, 0, none⟩ (.int .i64 iw)).setCell ⟨bo, 1, none⟩ (.int .i64 ih)).setCell ⟨bo, 2, none⟩ (.slice so n co) = U33 := hW
        rw [hW] at hg kon ron rpn hB
        rw [hW']
        clear hW hW' rowo rowp
        have rowo := ron
        have rowp := rpn
        clear ron rpn
        replace k5 := k5.kept hg (by simp <;> omega)
        replace k6 := k6.kept hg (by simp <;> omega)
        replace k7 := k7.kept hg (by simp <;> omega)
        replace kp := kp.kept hg (by simp <;> omega)
        replace ko := kon
        clear kon hg
        refine hK.out _ _ (fun _ => hB) ?_
        clear hK K
        try simp only [Act.put, List.setIfInBounds_toArray, List.set_cons_zero, List.set_cons_succ]
        refine step_op 7 (by kernel_rfl) rfl (fun K hK => ?_)
        rw [if_pos (by rfl)]
        have z0 := kp.cell (i := 0) rfl
        have z1 := kp.cell (i := 1) rfl
        have z2 := kp.cell (i := 2) rfl
        have fz0 := kp.frozen 0
        have fz1 := kp.frozen 1
        have fz2 := kp.frozen 2
        go_simp
        clear z0 z1 z2 fz0 fz1 fz2
        have hg := put3_grown U33 bp (.int .i64 jw) (.int .i64 jh) (.slice sp n' cp)
        have kpn := put3_blk kp (.int .i64 jw) (.int .i64 jh) (.slice sp n' cp)
        have ron := put3_row rowo (kp.not_row (by decide) rowo) (.int .i64 jw) (.int .i64 jh) (.slice sp n' cp)
        have rpn := put3_row rowp (kp.not_row (by decide) rowp) (.int .i64 jw) (.int .i64 jh) (.slice sp n' cp)
        replace hB := hB.trans (put3_below (n := V.heap.size) (B := bp) (by omega) (.int .i64 jw) (.int .i64 jh) (.slice sp n' cp))
        obtain ⟨U34, hW⟩ : ∃ W2, put3 U33 bp (.int .i64 jw) (.int .i64 jh) (.slice sp n' cp) = W2 := ⟨_, rfl⟩
        have hW' : ((U33.setCell ⟨bp, 0, none⟩ (.int .i64 jw)).setCell ⟨bp, 1, none⟩ (.int .i64 jh)).setCell ⟨bp, 2, none⟩ (.slice sp n' cp) = U34 := hW
        rw [hW] at hg kpn ron rpn hB
        rw [hW']
        clear hW hW' rowo rowp
        have rowo := ron
        have rowp := rpn
        clear ron rpn
        replace k5 := k5.kept hg (by simp <;> omega)
        replace k6 := k6.kept hg (by simp <;> omega)
        replace k7 := k7.kept hg (by simp <;> omega)
        replace ko := ko.kept hg (by simp <;> omega)
        replace kp := kpn
        clear kpn hg
        refine hK.out _ _ (fun _ => hB) ?_
        clear hK K
        try simp only [Act.put, List.setIfInBounds_toArray, List.set_cons_zero, List.set_cons_succ]
        refine done_ops (by kernel_rfl) ?_
        exact key so sp co cp bo bp _ ko kp rowo rowp (hBV.trans (hB.mono hBV.size)) k5 k6 k7 hlko hlkp hne
      · refine step_at 5 rfl (fun K hK => ?_)
        rw [if_pos (by rfl)]
        go_simp
        have kpn := Blk.new U30 24 #[.int .i64 0, .int .i64 0, .slice none 0 0]
        obtain ⟨bp, hbo⟩ : ∃ b, U30.heap.size = b := ⟨_, rfl⟩
        obtain ⟨U35, hW⟩ : ∃ W2, U30.alloc (.cells #[.int .i64 0, .int .i64 0, .slice none 0 0] 24) = W2 := ⟨_, rfl⟩
        have hb : Below U30.heap.size U30 U35 := alloc_below hW
        rw [hW] at kpn ⊢
        rw [hbo] at kpn ⊢
        have hlkp := hB.size
        rw [hbo] at hlkp
        have hlne := ko.lt
        rw [hbo] at hlne
        have hne : bo ≠ bp := by omega
        clear hlne
        replace k5 := k5.below hb k5.lt
        replace k6 := k6.below hb k6.lt
        replace k7 := k7.below hb k7.lt
        replace ko := ko.below hb ko.lt
        replace rowo := row_below rowo hb
        replace hB := hB.trans (hb.mono hB.size)
        have kp := kpn
        clear kpn hW hbo
        clear hb
        refine hK.out _ _ (fun _ => hB) ?_
        clear hK K
        try simp only [Act.put, List.setIfInBounds_toArray, List.set_cons_zero, List.set_cons_succ]
        refine step_op 3 (by kernel_rfl) rfl (fun K hK => ?_)
        rw [if_pos (by rfl)]
        go_simp
        refine (Twin_any jw jh a' c' n' ys hn' _ hm' ((hr'.below (Nat.le_refl _) (hBV.trans (hB.mono hBV.size))).mono (Nat.le_trans hBV.size hB.size)) hnil').mono ?_
        rintro e U36 ⟨v, rfl, ⟨sl, rfl, hrow⟩, hb⟩
        obtain ⟨sp, cp, rfl⟩ := row_slice hrow
        rw [hn'.out] at hrow ⊢
        have rowpn := row_base hrow hB.size
        clear hrow
        replace k5 := k5.below hb k5.lt
        replace k6 := k6.below hb k6.lt
        replace k7 := k7.below hb k7.lt
        replace ko := ko.below hb ko.lt
        replace kp := kp.below hb kp.lt
        replace rowo := row_below rowo hb
        replace hB := hB.trans (hb.mono hB.size)
        have rowp := rowpn
        clear rowpn
        clear hb
        refine hK.out _ _ (fun _ => hB) ?_
        clear hK K
        try simp only [Act.put, List.setIfInBounds_toArray, List.set_cons_zero, List.set_cons_succ]
        refine step_op 6 (by kernel_rfl) rfl (fun K hK => ?_)
        rw [if_pos (by rfl)]
        have z0 := ko.cell (i := 0) rfl
        have z1 := ko.cell (i := 1) rfl
        have z2 := ko.cell (i := 2) rfl
        have fz0 := ko.frozen 0
        have fz1 := ko.frozen 1
        have fz2 := ko.frozen 2
        go_simp
        clear z0 z1 z2 fz0 fz1 fz2
        have hg := put3_grown U36 bo (.int .i64 iw) (.int .i64 ih) (.slice so n co)
        have kon := put3_blk ko (.int .i64 iw) (.int .i64 ih) (.slice so n co)
        have ron := put3_row rowo (ko.not_row (by decide) rowo) (.int .i64 iw) (.int .i64 ih) (.slice so n co)
        have rpn := put3_row rowp (ko.not_row (by decide) rowp) (.int .i64 iw) (.int .i64 ih) (.slice so n co)
        replace hB := hB.trans (put3_below (n := V.heap.size) (B := bo) (by omega) (.int .i64 iw) (.int .i64 ih) (.slice so n co))
        obtain ⟨U37, hW⟩ : ∃ W2, put3 U36 bo (.int .i64 iw) (.int .i64 ih) (.slice so n co) = W2 := ⟨_, rfl⟩
        have hW' : ((U36.setCell ⟨bo, 0, none⟩ (.int .i64 iw)).setCell ⟨bo, 1, none⟩ (.int .i64 ih)).setCell ⟨bo, 2, none⟩ (.slice so n co) = U37 := hW
        rw [hW] at hg kon ron rpn hB
        rw [hW']
        clear hW hW' rowo rowp
        have rowo := ron
        have rowp := rpn
        clear ron rpn
        replace k5 := k5.kept hg (by simp <;> omega)
        replace k6 := k6.kept hg (by simp <;> omega)
        replace k7 := k7.kept hg (by simp <;> omega)
        replace kp := kp.kept hg (by simp <;> omega)
        replace ko := kon
        clear kon hg
        refine hK.out _ _ (fun _ => hB) ?_
        clear hK K
        try simp only [Act.put, List.setIfInBounds_toArray, List.set_cons_zero, List.set_cons_succ]
        refine step_op 7 (by kernel_rfl) rfl (fun K hK => ?_)
        rw [if_pos (by rfl)]
        have z0 := kp.cell (i := 0) rfl
        have z1 := kp.cell (i := 1) rfl
        have z2 := kp.cell (i := 2) rfl
        have fz0 := kp.frozen 0
        have fz1 := kp.frozen 1
        have fz2 := kp.frozen 2
        go_simp
        clear z0 z1 z2 fz0 fz1 fz2
        have hg := put3_grown U37 bp (.int .i64 jw) (.int .i64 jh) (.slice sp n' cp)
        have kpn := put3_blk kp (.int .i64 jw) (.int .i64 jh) (.slice sp n' cp)
        have ron := put3_row rowo (kp.not_row (by decide) rowo) (.int .i64 jw) (.int .i64 jh) (.slice sp n' cp)
        have rpn := put3_row rowp (kp.not_row (by decide) rowp) (.int .i64 jw) (.int .i64 jh) (.slice sp n' cp)
        replace hB := hB.trans (put3_below (n := V.heap.size) (B := bp) (by omega) (.int .i64 jw) (.int .i64 jh) (.slice sp n' cp))
        obtain ⟨U38, hW⟩ : ∃ W2, put3 U37 bp (.int .i64 jw) (.int .i64 jh) (.slice sp n' cp) = W2 := ⟨_, rfl⟩
        have hW' : ((U37.setCell ⟨bp, 0, none⟩ (.int .i64 jw)).setCell ⟨bp, 1, none⟩ (.int .i64 jh)).setCell ⟨bp, 2, none⟩ (.slice sp n' cp) = U38 := hW
        rw [hW] at hg kpn ron rpn hB
        rw [hW']
        clear hW hW' rowo rowp
        have rowo := ron
        have rowp := rpn
        clear ron rpn
        replace k5 := k5.kept hg (by simp <;> omega)
        replace k6 := k6.kept hg (by simp <;> omega)
        replace k7 := k7.kept hg (by simp <;> omega)
        replace ko := ko.kept hg (by simp <;> omega)
        replace kp := kpn
        clear kpn hg
        refine hK.out _ _ (fun _ => hB) ?_
        clear hK K
        try simp only [Act.put, List.setIfInBounds_toArray, List.set_cons_zero, List.set_cons_succ]
        refine done_ops (by kernel_rfl) ?_
        exact key so sp co cp bo bp _ ko kp rowo rowp (hBV.trans (hB.mono hBV.size)) k5 k6 k7 hlko hlkp hne
    · refine step_at 5 rfl (fun K hK => ?_)
      rw [if_pos (by rfl)]
      go_simp
      have kpn := Blk.new U29 24 #[.int .i64 0, .int .i64 0, .slice none 0 0]
      obtain ⟨bp, hbo⟩ : ∃ b, U29.heap.size = b := ⟨_, rfl⟩
      obtain ⟨U39, hW⟩ : ∃ W2, U29.alloc (.cells #[.int .i64 0, .int .i64 0, .slice none 0 0] 24) = W2 := ⟨_, rfl⟩
      have hb : Below U29.heap.size U29 U39 := alloc_below hW
      rw [hW] at kpn ⊢
      rw [hbo] at kpn ⊢
      have hlkp := hB.size
      rw [hbo] at hlkp
      have hlne := ko.lt
      rw [hbo] at hlne
      have hne : bo ≠ bp := by omega
      clear hlne
      replace k5 := k5.below hb k5.lt
      replace k6 := k6.below hb k6.lt
      replace k7 := k7.below hb k7.lt
      replace ko := ko.below hb ko.lt
      replace hB := hB.trans (hb.mono hB.size)
      have kp := kpn
      clear kpn hW hbo
      clear hb
      refine hK.out _ _ (fun _ => hB) ?_
      clear hK K
      try simp only [Act.put, List.setIfInBounds_toArray, List.set_cons_zero, List.set_cons_succ]
      refine step_op 1 (by kernel_rfl) rfl (fun K hK => ?_)
      rw [if_pos (by rfl)]
      go_simp
      refine (Twin_any iw ih a c n xs hn _ hm ((hr.below (Nat.le_refl _) (hBV.trans (hB.mono hBV.size))).mono (Nat.le_trans hBV.size hB.size)) hnil).mono ?_
      rintro e U40 ⟨v, rfl, ⟨sl, rfl, hrow⟩, hb⟩
      obtain ⟨so, co, rfl⟩ := row_slice hrow
      rw [hn.out] at hrow ⊢
      have rowon := row_base hrow hB.size
      clear hrow
      replace k5 := k5.below hb k5.lt
      replace k6 := k6.below hb k6.lt
      replace k7 := k7.below hb k7.lt
      replace ko := ko.below hb ko.lt
      replace kp := kp.below hb kp.lt
      replace hB := hB.trans (hb.mono hB.size)
      have rowo := rowon
      clear rowon
      clear hb
      refine hK.out _ _ (fun _ => hB) ?_
      clear hK K
      try simp only [Act.put, List.setIfInBounds_toArray, List.set_cons_zero, List.set_cons_succ]
      refine step_op 3 (by kernel_rfl) rfl (fun K hK => ?_)
      rw [if_pos (by rfl)]
      go_simp
      refine (Twin_any jw jh a' c' n' ys hn' _ hm' ((hr'.below (Nat.le_refl _) (hBV.trans (hB.mono hBV.size))).mono (Nat.le_trans hBV.size hB.size)) hnil').mono ?_
      rintro e U41 ⟨v, rfl, ⟨sl, rfl, hrow⟩, hb⟩
      obtain ⟨sp, cp, rfl⟩ := row_slice hrow
      rw [hn'.out] at hrow ⊢
      have rowpn := row_base hrow hB.size
      clear hrow
      replace k5 := k5.below hb k5.lt
      replace k6 := k6.below hb k6.lt
      replace k7 := k7.below hb k7.lt
      replace ko := ko.below hb ko.lt
      replace kp := kp.below hb kp.lt
      replace rowo := row_below rowo hb
      replace hB := hB.trans (hb.mono hB.size)
      have rowp := rowpn
      clear rowpn
      clear hb
      refine hK.out _ _ (fun _ => hB) ?_
      clear hK K
      try simp only [Act.put, List.setIfInBounds_toArray, List.set_cons_zero, List.set_cons_succ]
      refine step_op 6 (by kernel_rfl) rfl (fun K hK => ?_)
      rw [if_pos (by rfl)]
      have z0 := ko.cell (i := 0) rfl
      have z1 := ko.cell (i := 1) rfl
      have z2 := ko.cell (i := 2) rfl
      have fz0 := ko.frozen 0
      have fz1 := ko.frozen 1
      have fz2 := ko.frozen 2
      go_simp
      clear z0 z1 z2 fz0 fz1 fz2
      have hg := put3_grown U41 bo (.int .i64 iw) (.int .i64 ih) (.slice so n co)
      have kon := put3_blk ko (.int .i64 iw) (.int .i64 ih) (.slice so n co)
      have ron := put3_row rowo (ko.not_row (by decide) rowo) (.int .i64 iw) (.int .i64 ih) (.slice so n co)
      have rpn := put3_row rowp (ko.not_row (by decide) rowp) (.int .i64 iw) (.int .i64 ih) (.slice so n co)
      replace hB := hB.trans (put3_below (n := V.heap.size) (B := bo) (by omega) (.int .i64 iw) (.int .i64 ih) (.slice so n co))
      obtain ⟨U42, hW⟩ : ∃ W2, put3 U41 bo (.int .i64 iw) (.int .i64 ih) (.slice so n co) = W2 := ⟨_, rfl⟩
      have hW' : ((U41.setCell ⟨bo, 0, none⟩ (.int .i64 iw)).setCell ⟨bo, 1, none⟩ (.int .i64 ih)).setCell ⟨bo, 2, none⟩ (.slice so n co) = U42 := hW
      rw [hW] at hg kon ron rpn hB
      rw [hW']
      clear hW hW' rowo rowp
      have rowo := ron
      have rowp := rpn
      clear ron rpn
      replace k5 := k5.kept hg (by simp <;> omega)
      replace k6 := k6.kept hg (by simp <;> omega)
      replace k7 := k7.kept hg (by simp <;> omega)
      replace kp := kp.kept hg (by simp <;> omega)
      replace ko := kon
      clear kon hg
      refine hK.out _ _ (fun _ => hB) ?_
      clear hK K
      try simp only [Act.put, List.setIfInBounds_toArray, List.set_cons_zero, List.set_cons_succ]
      refine step_op 7 (by kernel_rfl) rfl (fun K hK => ?_)
      rw [if_pos (by rfl)]
      have z0 := kp.cell (i := 0) rfl
      have z1 := kp.cell (i := 1) rfl
      have z2 := kp.cell (i := 2) rfl
      have fz0 := kp.frozen 0
      have fz1 := kp.frozen 1
      have fz2 := kp.frozen 2
      go_simp
      clear z0 z1 z2 fz0 fz1 fz2
      have hg := put3_grown U42 bp (.int .i64 jw) (.int .i64 jh) (.slice sp n' cp)
      have kpn := put3_blk kp (.int .i64 jw) (.int .i64 jh) (.slice sp n' cp)
      have ron := put3_row rowo (kp.not_row (by decide) rowo) (.int .i64 jw) (.int .i64 jh) (.slice sp n' cp)
      have rpn := put3_row rowp (kp.not_row (by decide) rowp) (.int .i64 jw) (.int .i64 jh) (.slice sp n' cp)
      replace hB := hB.trans (put3_below (n := V.heap.size) (B := bp) (by omega) (.int .i64 jw) (.int .i64 jh) (.slice sp n' cp))
      obtain ⟨U43, hW⟩ : ∃ W2, put3 U42 bp (.int .i64 jw) (.int .i64 jh) (.slice sp n' cp) = W2 := ⟨_, rfl⟩
      have hW' : ((U42.setCell ⟨bp, 0, none⟩ (.int .i64 jw)).setCell ⟨bp, 1, none⟩ (.int .i64 jh)).setCell ⟨bp, 2, none⟩ (.slice sp n' cp) = U43 := hW
      rw [hW] at hg kpn ron rpn hB
      rw [hW']
      clear hW hW' rowo rowp
      have rowo := ron
      have rowp := rpn
      clear ron rpn
      replace k5 := k5.kept hg (by simp <;> omega)
      replace k6 := k6.kept hg (by simp <;> omega)
      replace k7 := k7.kept hg (by simp <;> omega)
      replace ko := ko.kept hg (by simp <;> omega)
      replace kp := kpn
      clear kpn hg
      refine hK.out _ _ (fun _ => hB) ?_
      clear hK K
      try simp only [Act.put, List.setIfInBounds_toArray, List.set_cons_zero, List.set_cons_succ]
      refine done_ops (by kernel_rfl) ?_
      exact key so sp co cp bo bp _ ko kp rowo rowp (hBV.trans (hB.mono hBV.size)) k5 k6 k7 hlko hlkp hne
  · refine step_at 5 rfl (fun K hK => ?_)
    rw [if_pos (by rfl)]
    go_simp
    have kpn := Blk.new V0 24 #[.int .i64 0, .int .i64 0, .slice none 0 0]
    obtain ⟨bp, hbo⟩ : ∃ b, V0.heap.size = b := ⟨_, rfl⟩
    obtain ⟨U44, hW⟩ : ∃ W2, V0.alloc (.cells #[.int .i64 0, .int .i64 0, .slice none 0 0] 24) = W2 := ⟨_, rfl⟩
    have hb : Below V0.heap.size V0 U44 := alloc_below hW
    rw [hW] at kpn ⊢
    rw [hbo] at kpn ⊢
    have hlkp := hB.size
    rw [hbo] at hlkp
    replace k5 := k5.below hb k5.lt
    replace k6 := k6.below hb k6.lt
    replace k7 := k7.below hb k7.lt
    replace hB := hB.trans (hb.mono hB.size)
    have kp := kpn
    clear kpn hW hbo
    clear hb
    refine hK.out _ _ (fun _ => hB) ?_
    clear hK K
    try simp only [Act.put, List.setIfInBounds_toArray, List.set_cons_zero, List.set_cons_succ]
    refine fork2 (i := 1) (j := 4) (by kernel_rfl) ?_ ?_
    · refine step_at 1 rfl (fun K hK => ?_)
      rw [if_pos (by rfl)]
      go_simp
      refine (Twin_any iw ih a c n xs hn _ hm ((hr.below (Nat.le_refl _) (hBV.trans (hB.mono hBV.size))).mono (Nat.le_trans hBV.size hB.size)) hnil).mono ?_
      rintro e U45 ⟨v, rfl, ⟨sl, rfl, hrow⟩, hb⟩
      obtain ⟨so, co, rfl⟩ := row_slice hrow
      rw [hn.out] at hrow ⊢
      have rowon := row_base hrow hB.size
      clear hrow
      replace k5 := k5.below hb k5.lt
      replace k6 := k6.below hb k6.lt
      replace k7 := k7.below hb k7.lt
      replace kp := kp.below hb kp.lt
      replace hB := hB.trans (hb.mono hB.size)
      have rowo := rowon
      clear rowon
      clear hb
      refine hK.out _ _ (fun _ => hB) ?_
      clear hK K
      try simp only [Act.put, List.setIfInBounds_toArray, List.set_cons_zero, List.set_cons_succ]
      refine fork2 (i := 3) (j := 4) (by kernel_rfl) ?_ ?_
      · refine step_at 3 rfl (fun K hK => ?_)
        rw [if_pos (by rfl)]
        go_simp
        refine (Twin_any jw jh a' c' n' ys hn' _ hm' ((hr'.below (Nat.le_refl _) (hBV.trans (hB.mono hBV.size))).mono (Nat.le_trans hBV.size hB.size)) hnil').mono ?_
        rintro e U46 ⟨v, rfl, ⟨sl, rfl, hrow⟩, hb⟩
        obtain ⟨sp, cp, rfl⟩ := row_slice hrow
        rw [hn'.out] at hrow ⊢
        have rowpn := row_base hrow hB.size
        clear hrow
        replace k5 := k5.below hb k5.lt
        replace k6 := k6.below hb k6.lt
        replace k7 := k7.below hb k7.lt
        replace kp := kp.below hb kp.lt
        replace rowo := row_below rowo hb
        replace hB := hB.trans (hb.mono hB.size)
        have rowp := rowpn
        clear rowpn
        clear hb
        refine hK.out _ _ (fun _ => hB) ?_
        clear hK K
        try simp only [Act.put, List.setIfInBounds_toArray, List.set_cons_zero, List.set_cons_succ]
        refine step_op 4 (by kernel_rfl) rfl (fun K hK => ?_)
        rw [if_pos (by rfl)]
        go_simp
        have kon := Blk.new U46 24 #[.int .i64 0, .int .i64 0, .slice none 0 0]
        obtain ⟨bo, hbo⟩ : ∃ b, U46.heap.size = b := ⟨_, rfl⟩
        obtain ⟨U47, hW⟩ : ∃ W2, U46.alloc (.cells #[.int .i64 0, .int .i64 0, .slice none 0 0] 24) = W2 := ⟨_, rfl⟩
        have hb : Below U46.heap.size U46 U47 := alloc_below hW
        rw [hW] at kon ⊢
        rw [hbo] at kon ⊢
        have hlko := hB.size
        rw [hbo] at hlko
        have hlne := kp.lt
        rw [hbo] at hlne
        have hne : bo ≠ bp := by omega
        clear hlne
        replace k5 := k5.below hb k5.lt
        replace k6 := k6.below hb k6.lt
        replace k7 := k7.below hb k7.lt
        replace kp := kp.below hb kp.lt
        replace rowo := row_below rowo hb
        replace rowp := row_below rowp hb
        replace hB := hB.trans (hb.mono hB.size)
        have ko := kon
        clear kon hW hbo
        clear hb
        refine hK.out _ _ (fun _ => hB) ?_
        clear hK K
        try simp only [Act.put, List.setIfInBounds_toArray, List.set_cons_zero, List.set_cons_succ]
        refine step_op 6 (by kernel_rfl) rfl (fun K hK => ?_)
        rw [if_pos (by rfl)]
        have z0 := ko.cell (i := 0) rfl
        have z1 := ko.cell (i := 1) rfl
        have z2 := ko.cell (i := 2) rfl
        have fz0 := ko.frozen 0
        have fz1 := ko.frozen 1
        have fz2 := ko.frozen 2
        go_simp
        clear z0 z1 z2 fz0 fz1 fz2
        have hg := put3_grown U47 bo (.int .i64 iw) (.int .i64 ih) (.slice so n co)
        have kon := put3_blk ko (.int .i64 iw) (.int .i64 ih) (.slice so n co)
        have ron := put3_row rowo (ko.not_row (by decide) rowo) (.int .i64 iw) (.int .i64 ih) (.slice so n co)
        have rpn := put3_row rowp (ko.not_row (by decide) rowp) (.int .i64 iw) (.int .i64 ih) (.slice so n co)
        replace hB := hB.trans (put3_below (n := V.heap.size) (B := bo) (by omega) (.int .i64 iw) (.int .i64 ih) (.slice so n co))
        obtain ⟨U48, hW⟩ : ∃ W2, put3 U47 bo (.int .i64 iw) (.int .i64 ih) (.slice so n co) = W2 := ⟨_, rfl⟩
        have hW' : ((U47.setCell ⟨bo, 0, none⟩ (.int .i64 iw)).setCell ⟨bo, 1, none⟩ (.int .i64 ih)).setCell ⟨bo, 2, none⟩ (.slice so n co) = U48 := hW
        rw [hW] at hg kon ron rpn hB
        rw [hW']
        clear hW hW' rowo rowp
        have rowo := ron
        have rowp := rpn
        clear ron rpn
        replace k5 := k5.kept hg (by simp <;> omega)
        replace k6 := k6.kept hg (by simp <;> omega)
        replace k7 := k7.kept hg (by simp <;> omega)
        replace kp := kp.kept hg (by simp <;> omega)
        replace ko := kon
        clear kon hg
        refine hK.out _ _ (fun _ => hB) ?_
        clear hK K
        try simp only [Act.put, List.setIfInBounds_toArray, List.set_cons_zero, List.set_cons_succ]
        refine step_op 7 (by kernel_rfl) rfl (fun K hK => ?_)
        rw [if_pos (by rfl)]
        have z0 := kp.cell (i := 0) rfl
        have z1 := kp.cell (i := 1) rfl
        have z2 := kp.cell (i := 2) rfl
        have fz0 := kp.frozen 0
        have fz1 := kp.frozen 1
        have fz2 := kp.frozen 2
        go_simp
        clear z0 z1 z2 fz0 fz1 fz2
        have hg := put3_grown U48 bp (.int .i64 jw) (.int .i64 jh) (.slice sp n' cp)
        have kpn := put3_blk kp (.int .i64 jw) (.int .i64 jh) (.slice sp n' cp)
        have ron := put3_row rowo (kp.not_row (by decide) rowo) (.int .i64 jw) (.int .i64 jh) (.slice sp n' cp)
        have rpn := put3_row rowp (kp.not_row (by decide) rowp) (.int .i64 jw) (.int .i64 jh) (.slice sp n' cp)
        replace hB := hB.trans (put3_below (n := V.heap.size) (B := bp) (by omega) (.int .i64 jw) (.int .i64 jh) (.slice sp n' cp))
        obtain ⟨U49, hW⟩ : ∃ W2, put3 U48 bp (.int .i64 jw) (.int .i64 jh) (.slice sp n' cp) = W2 := ⟨_, rfl⟩
        have hW' : ((U48.setCell ⟨bp, 0, none⟩ (.int .i64 jw)).setCell ⟨bp, 1, none⟩ (.int .i64 jh)).setCell ⟨bp, 2, none⟩ (.slice sp n' cp) = U49 := hW
        rw [hW] at hg kpn ron rpn hB
        rw [hW']
        clear hW hW' rowo rowp
        have rowo := ron
        have rowp := rpn
        clear ron rpn
        replace k5 := k5.kept hg (by simp <;> omega)
        replace k6 := k6.kept hg (by simp <;> omega)
        replace k7 := k7.kept hg (by simp <;> omega)
        replace ko := ko.kept hg (by simp <;> omega)
        replace kp := kpn
        clear kpn hg
        refine hK.out _ _ (fun _ => hB) ?_
        clear hK K
        try simp only [Act.put, List.setIfInBounds_toArray, List.set_cons_zero, List.set_cons_succ]
        refine done_ops (by kernel_rfl) ?_
        exact key so sp co cp bo bp _ ko kp rowo rowp (hBV.trans (hB.mono hBV.size)) k5 k6 k7 hlko hlkp hne
      · refine step_at 4 rfl (fun K hK => ?_)
        rw [if_pos (by rfl)]
        go_simp
        have kon := Blk.new U45 24 #[.int .i64 0, .int .i64 0, .slice none 0 0]
        obtain ⟨bo, hbo⟩ : ∃ b, U45.heap.size = b := ⟨_, rfl⟩
        obtain ⟨U50, hW⟩ : ∃ W2, U45.alloc (.cells #[.int .i64 0, .int .i64 0, .slice none 0 0] 24) = W2 := ⟨_, rfl⟩
        have hb : Below U45.heap.size U45 U50 := alloc_below hW
        rw [hW] at kon ⊢
        rw [hbo] at kon ⊢
        have hlko := hB.size
        rw [hbo] at hlko
        have hlne := kp.lt
        rw [hbo] at hlne
        have hne : bo ≠ bp := by omega
        clear hlne
        replace k5 := k5.below hb k5.lt
        replace k6 := k6.below hb k6.lt
        replace k7 := k7.below hb k7.lt
        replace kp := kp.below hb kp.lt
        replace rowo := row_below rowo hb
        replace hB := hB.trans (hb.mono hB.size)
        have ko := kon
        clear kon hW hbo
        clear hb
        refine hK.out _ _ (fun _ => hB) ?_
        clear hK K
        try simp only [Act.put, List.setIfInBounds_toArray, List.set_cons_zero, List.set_cons_succ]
        refine step_op 3 (by kernel_rfl) rfl (fun K hK => ?_)
        rw [if_pos (by rfl)]
        go_simp
        refine (Twin_any jw jh a' c' n' ys hn' _ hm' ((hr'.below (Nat.le_refl _) (hBV.trans (hB.mono hBV.size))).mono (Nat.le_trans hBV.size hB.size)) hnil').mono ?_
        rintro e U51 ⟨v, rfl, ⟨sl, rfl, hrow⟩, hb⟩
        obtain ⟨sp, cp, rfl⟩ := row_slice hrow
        rw [hn'.out] at hrow ⊢
        have rowpn := row_base hrow hB.size
        clear hrow
        replace k5 := k5.below hb k5.lt
        replace k6 := k6.below hb k6.lt
        replace k7 := k7.below hb k7.lt
        replace ko := ko.below hb ko.lt
        replace kp := kp.below hb kp.lt
        replace rowo := row_below rowo hb
        replace hB := hB.trans (hb.mono hB.size)
        have rowp := rowpn
        clear rowpn
        clear hb
        refine hK.out _ _ (fun _ => hB) ?_
        clear hK K
        try simp only [Act.put, List.setIfInBounds_toArray, List.set_cons_zero, List.set_cons_succ]
        refine step_op 6 (by kernel_rfl) rfl (fun K hK => ?_)
        rw [if_pos (by rfl)]
        have z0 := ko.cell (i := 0) rfl
        have z1 := ko.cell (i := 1) rfl
        have z2 := ko.cell (i := 2) rfl
        have fz0 := ko.frozen 0
        have fz1 := ko.frozen 1
        have fz2 := ko.frozen 2
        go_simp
        clear z0 z1 z2 fz0 fz1 fz2
        have hg := put3_grown U51 bo (.int .i64 iw) (.int .i64 ih) (.slice so n co)
        have kon := put3_blk ko (.int .i64 iw) (.int .i64 ih) (.slice so n co)
        have ron := put3_row rowo (ko.not_row (by decide) rowo) (.int .i64 iw) (.int .i64 ih) (.slice so n co)
        have rpn := put3_row rowp (ko.not_row (by decide) rowp) (.int .i64 iw) (.int .i64 ih) (.slice so n co)
        replace hB := hB.trans (put3_below (n := V.heap.size) (B := bo) (by omega) (.int .i64 iw) (.int .i64 ih) (.slice so n co))
        obtain ⟨U52, hW⟩ : ∃ W2, put3 U51 bo (.int .i64 iw) (.int .i64 ih) (.slice so n co) = W2 := ⟨_, rfl⟩
        have hW' : ((U51.setCell ⟨bo, 0, none⟩ (.int .i64 iw)).setCell ⟨bo, 1, none⟩ (.int .i64 ih)).setCell ⟨bo, 2, none⟩ (.slice so n co) = U52 := hW
        rw [hW] at hg kon ron rpn hB
        rw [hW']
        clear hW hW' rowo rowp
        have rowo := ron
        have rowp := rpn
        clear ron rpn
        replace k5 := k5.kept hg (by simp <;> omega)
        replace k6 := k6.kept hg (by simp <;> omega)
        replace k7 := k7.kept hg (by simp <;> omega)
        replace kp := kp.kept hg (by simp <;> omega)
        replace ko := kon
        clear kon hg
        refine hK.out _ _ (fun _ => hB) ?_
        clear hK K
        try simp only [Act.put, List.setIfInBounds_toArray, List.set_cons_zero, List.set_cons_succ]
        refine step_op 7 (by kernel_rfl) rfl (fun K hK => ?_)
        rw [if_pos (by rfl)]
        have z0 := kp.cell (i := 0) rfl
        have z1 := kp.cell (i := 1) rfl
        have z2 := kp.cell (i := 2) rfl
        have fz0 := kp.frozen 0
        have fz1 := kp.frozen 1
        have fz2 := kp.frozen 2
        go_simp
        clear z0 z1 z2 fz0 fz1 fz2
        have hg := put3_grown U52 bp (.int .i64 jw) (.int .i64 jh) (.slice sp n' cp)
        have kpn := put3_blk kp (.int .i64 jw) (.int .i64 jh) (.slice sp n' cp)
        have ron := put3_row rowo (kp.not_row (by decide) rowo) (.int .i64 jw) (.int .i64 jh) (.slice sp n' cp)
        have rpn := put3_row rowp (kp.not_row (by decide) rowp) (.int .i64 jw) (.int .i64 jh) (.slice sp n' cp)
        replace hB := hB.trans (put3_below (n := V.heap.size) (B := bp) (by omega) (.int .i64 jw) (.int .i64 jh) (.slice sp n' cp))
        obtain ⟨U53, hW⟩ : ∃ W2, put3 U52 bp (.int .i64 jw) (.int .i64 jh) (.slice sp n' cp) = W2 := ⟨_, rfl⟩
        have hW' : ((U52.setCell ⟨bp, 0, none⟩ (.int .i64 jw)).setCell ⟨bp, 1, none⟩ (.int .i64 jh)).setCell ⟨bp, 2, none⟩ (.slice sp n' cp) = U53 := hW
        rw [hW] at hg kpn ron rpn hB
        rw [hW']
        clear hW hW' rowo rowp
        have rowo := ron
        have rowp := rpn
        clear ron rpn
        replace k5 := k5.kept hg (by simp <;> omega)
        replace k6 := k6.kept hg (by simp <;> omega)
        replace k7 := k7.kept hg (by simp <;> omega)
        replace ko := ko.kept hg (by simp <;> omega)
        replace kp := kpn
        clear kpn hg
        refine hK.out _ _ (fun _ => hB) ?_
        clear hK K
        try simp only [Act.put, List.setIfInBounds_toArray, List.set_cons_zero, List.set_cons_succ]
        refine done_ops (by kernel_rfl) ?_
        exact key so sp co cp bo bp _ ko kp rowo rowp (hBV.trans (hB.mono hBV.size)) k5 k6 k7 hlko hlkp hne
    · refine step_at 4 rfl (fun K hK => ?_)
      rw [if_pos (by rfl)]
      go_simp
      have kon := Blk.new U44 24 #[.int .i64 0, .int .i64 0, .slice none 0 0]
      obtain ⟨bo, hbo⟩ : ∃ b, U44.heap.size = b := ⟨_, rfl⟩
      obtain ⟨U54, hW⟩ : ∃ W2, U44.alloc (.cells #[.int .i64 0, .int .i64 0, .slice none 0 0] 24) = W2 := ⟨_, rfl⟩
      have hb : Below U44.heap.size U44 U54 := alloc_below hW
      rw [hW] at kon ⊢
      rw [hbo] at kon ⊢
      have hlko := hB.size
      rw [hbo] at hlko
      have hlne := kp.lt
      rw [hbo] at hlne
      have hne : bo ≠ bp := by omega
      clear hlne
      replace k5 := k5.below hb k5.lt
      replace k6 := k6.below hb k6.lt
      replace k7 := k7.below hb k7.lt
      replace kp := kp.below hb kp.lt
      replace hB := hB.trans (hb.mono hB.size)
      have ko := kon
      clear kon hW hbo
      clear hb
      refine hK.out _ _ (fun _ => hB) ?_
      clear hK K
      try simp only [Act.put, List.setIfInBounds_toArray, List.set_cons_zero, List.set_cons_succ]
      refine step_op 1 (by kernel_rfl) rfl (fun K hK => ?_)
      rw [if_pos (by rfl)]
      go_simp
      refine (Twin_any iw ih a c n xs hn _ hm ((hr.below (Nat.le_refl _) (hBV.trans (hB.mono hBV.size))).mono (Nat.le_trans hBV.size hB.size)) hnil).mono ?_
      rintro e U55 ⟨v, rfl, ⟨sl, rfl, hrow⟩, hb⟩
      obtain ⟨so, co, rfl⟩ := row_slice hrow
      rw [hn.out] at hrow ⊢
      have rowon := row_base hrow hB.size
      clear hrow
      replace k5 := k5.below hb k5.lt
      replace k6 := k6.below hb k6.lt
      replace k7 := k7.below hb k7.lt
      replace ko := ko.below hb ko.lt
      replace kp := kp.below hb kp.lt
      replace hB := hB.trans (hb.mono hB.size)
      have rowo := rowon
      clear rowon
      clear hb
      refine hK.out _ _ (fun _ => hB) ?_
      clear hK K
      try simp only [Act.put, List.setIfInBounds_toArray, List.set_cons_zero, List.set_cons_succ]
      refine step_op 3 (by kernel_rfl) rfl (fun K hK => ?_)
      rw [if_pos (by rfl)]
      go_simp
      refine (Twin_any jw jh a' c' n' ys hn' _ hm' ((hr'.below (Nat.le_refl _) (hBV.trans (hB.mono hBV.size))).mono (Nat.le_trans hBV.size hB.size)) hnil').mono ?_
      rintro e U56 ⟨v, rfl, ⟨sl, rfl, hrow⟩, hb⟩
      obtain ⟨sp, cp, rfl⟩ := row_slice hrow
      rw [hn'.out] at hrow ⊢
      have rowpn := row_base hrow hB.size
      clear hrow
      replace k5 := k5.below hb k5.lt
      replace k6 := k6.below hb k6.lt
      replace k7 := k7.below hb k7.lt
      replace ko := ko.below hb ko.lt
      replace kp := kp.below hb kp.lt
      replace rowo := row_below rowo hb
      replace hB := hB.trans (hb.mono hB.size)
      have rowp := rowpn
      clear rowpn
      clear hb
      refine hK.out _ _ (fun _ => hB) ?_
      clear hK K
      try simp only [Act.put, List.setIfInBounds_toArray, List.set_cons_zero, List.set_cons_succ]
      refine step_op 6 (by kernel_rfl) rfl (fun K hK => ?_)
      rw [if_pos (by rfl)]
      have z0 := ko.cell (i := 0) rfl
      have z1 := ko.cell (i := 1) rfl
      have z2 := ko.cell (i := 2) rfl
      have fz0 := ko.frozen 0
      have fz1 := ko.frozen 1
      have fz2 := ko.frozen 2
      go_simp
      clear z0 z1 z2 fz0 fz1 fz2
      have hg := put3_grown U56 bo (.int .i64 iw) (.int .i64 ih) (.slice so n co)
      have kon := put3_blk ko (.int .i64 iw) (.int .i64 ih) (.slice so n co)
      have ron := put3_row rowo (ko.not_row (by decide) rowo) (.int .i64 iw) (.int .i64 ih) (.slice so n co)
      have rpn := put3_row rowp (ko.not_row (by decide) rowp) (.int .i64 iw) (.int .i64 ih) (.slice so n co)
      replace hB := hB.trans (put3_below (n := V.heap.size) (B := bo) (by omega) (.int .i64 iw) (.int .i64 ih) (.slice so n co))
      obtain ⟨U57, hW⟩ : ∃ W2, put3 U56 bo (.int .i64 iw) (.int .i64 ih) (.slice so n co) = W2 := ⟨_, rfl⟩
      have hW' : ((U56.setCell ⟨bo, 0, none⟩ (.int .i64 iw)).setCell ⟨bo, 1, none⟩ (.int .i64 ih)).setCell ⟨bo, 2, none⟩ (.slice so n co) = U57 := hW
      rw [hW] at hg kon ron rpn hB
      rw [hW']
      clear hW hW' rowo rowp
      have rowo := ron
      have rowp := rpn
      clear ron rpn
      replace k5 := k5.kept hg (by simp <;> omega)
      replace k6 := k6.kept hg (by simp <;> omega)
      replace k7 := k7.kept hg (by simp <;> omega)
      replace kp := kp.kept hg (by simp <;> omega)
      replace ko := kon
      clear kon hg
      refine hK.out _ _ (fun _ => hB) ?_
      clear hK K
      try simp only [Act.put, List.setIfInBounds_toArray, List.set_cons_zero, List.set_cons_succ]
      refine step_op 7 (by kernel_rfl) rfl (fun K hK => ?_)
      rw [if_pos (by rfl)]
      have z0 := kp.cell (i := 0) rfl
      have z1 := kp.cell (i := 1) rfl
      have z2 := kp.cell (i := 2) rfl
      have fz0 := kp.frozen 0
      have fz1 := kp.frozen 1
      have fz2 := kp.frozen 2
      go_simp
      clear z0 z1 z2 fz0 fz1 fz2
      have hg := put3_grown U57 bp (.int .i64 jw) (.int .i64 jh) (.slice sp n' cp)
      have kpn := put3_blk kp (.int .i64 jw) (.int .i64 jh) (.slice sp n' cp)
      have ron := put3_row rowo (kp.not_row (by decide) rowo) (.int .i64 jw) (.int .i64 jh) (.slice sp n' cp)
      have rpn := put3_row rowp (kp.not_row (by decide) rowp) (.int .i64 jw) (.int .i64 jh) (.slice sp n' cp)
      replace hB := hB.trans (put3_below (n := V.heap.size) (B := bp) (by omega) (.int .i64 jw) (.int .i64 jh) (.slice sp n' cp))
      obtain ⟨U58, hW⟩ : ∃ W2, put3 U57 bp (.int .i64 jw) (.int .i64 jh) (.slice sp n' cp) = W2 := ⟨_, rfl⟩
      have hW' : ((U57.setCell ⟨bp, 0, none⟩ (.int .i64 jw)).setCell ⟨bp, 1, none⟩ (.int .i64 jh)).setCell ⟨bp, 2, none⟩ (.slice sp n' cp) = U58 := hW
      rw [hW] at hg kpn ron rpn hB
      rw [hW']
      clear hW hW' rowo rowp
      have rowo := ron
      have rowp := rpn
      clear ron rpn
      replace k5 := k5.kept hg (by simp <;> omega)
      replace k6 := k6.kept hg (by simp <;> omega)
      replace k7 := k7.kept hg (by simp <;> omega)
      replace ko := ko.kept hg (by simp <;> omega)
      replace kp := kpn
      clear kpn hg
      refine hK.out _ _ (fun _ => hB) ?_
      clear hK K
      try simp only [Act.put, List.setIfInBounds_toArray, List.set_cons_zero, List.set_cons_succ]
      refine done_ops (by kernel_rfl) ?_
      exact key so sp co cp bo bp _ ko kp rowo rowp (hBV.trans (hB.mono hBV.size)) k5 k6 k7 hlko hlkp hne
end Go.Proofs.Ytjglfeonoiljlaa
