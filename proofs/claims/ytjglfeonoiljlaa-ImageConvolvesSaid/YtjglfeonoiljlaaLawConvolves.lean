/- The walk of the law ImageConvolves: it returns true, and nothing that lay has turned. -/
import Derived.Test.YtjglfeonoiljlaaComp
import Derived.Test.YtjglfeonoiljlaaLawWarps
namespace Go.Proofs.Ytjglfeonoiljlaa
open Go Go.RowKit Go.Shelf
set_option linter.unusedVariables false
set_option linter.unusedSimpArgs false

set_option maxRecDepth 100000 in
set_option maxHeartbeats 8000000 in
theorem law_convolves (iw ih : Int) (a : Option Addr) (c n : Nat) (xs : List Int) (hn : Hid (xs.length = n)) (aw ah : Int) (ax : Option Addr) (ca na : Nat) (A : List Int) (hna : Hid (A.length = na)) (bw bh : Int) (gx : Option Addr) (cb nb : Nat) (B : List Int) (hnb : Hid (B.length = nb)) (bd : Int) (hd1 : 0 ≤ bd) (hd2 : bd ≤ 255) (w : World) (hm : n * 8 ≤ 140737488355328) (hr : Rd w.heap.size w a xs) (hnil : Hid (a = none → n = 0 ∧ c = 0)) (hma : na ≤ 9223372036854775807) (hra : Rd w.heap.size w ax A) (hmb : nb ≤ 9223372036854775807) (hrb : Rd w.heap.size w gx B) :
    Calls Try.prog 7 #[imv iw ih a n c, imv aw ah ax na ca, imv bw bh gx nb cb, .int .u8 bd] w fun e w' => e = .returned (.bool true) ∧ Below w.heap.size w w' := by
  obtain ⟨⟨q1w, q1h, q1px, q1e⟩, hR⟩ : ∃ r, convS iw ih xs aw ah A bd = r := ⟨_, rfl⟩
  have hR1 := Lib.hid hR
  clear hR
  obtain ⟨⟨q2w, q2h, q2px, q2e⟩, hR⟩ : ∃ r, compS aw ah A bw bh B = r := ⟨_, rfl⟩
  have hR2 := Lib.hid hR
  clear hR
  have hB0 : Below w.heap.size w (((w.alloc (.cells #[.int .i64 iw, .int .i64 ih, .slice a n c] 24)).alloc (.cells #[.int .i64 aw, .int .i64 ah, .slice ax na ca] 64)).alloc (.cells #[.int .i64 bw, .int .i64 bh, .slice gx nb cb] 64)) := below_al (below_al (below_al (Below.refl _ _) _) _) _
  go_enter Try.func7, Try.ntmps7
  go_wp2_with fail
  refine (Twin_any iw ih a c n xs hn _ hm ((hr.below (Nat.le_refl _) hB0).mono hB0.size) hnil).mono ?_
  rintro e W1 ⟨v, rfl, ⟨sl, rfl, hrow⟩, hb⟩
  obtain ⟨so, co, rfl⟩ := row_slice hrow
  rw [hn.out] at hrow ⊢
  have k5 := (((Blk.new w 24 #[.int .i64 iw, .int .i64 ih, .slice a n c]).alloc (.cells #[.int .i64 aw, .int .i64 ah, .slice ax na ca] 64)).alloc (.cells #[.int .i64 bw, .int .i64 bh, .slice gx nb cb] 64)).below hb (by simp <;> omega)
  have k6 := ((Blk.new (w.alloc (.cells #[.int .i64 iw, .int .i64 ih, .slice a n c] 24)) 64 #[.int .i64 aw, .int .i64 ah, .slice ax na ca]).alloc (.cells #[.int .i64 bw, .int .i64 bh, .slice gx nb cb] 64)).below hb (by simp <;> omega)
  have k7 := (Blk.new ((w.alloc (.cells #[.int .i64 iw, .int .i64 ih, .slice a n c] 24)).alloc (.cells #[.int .i64 aw, .int .i64 ah, .slice ax na ca] 64)) 64 #[.int .i64 bw, .int .i64 bh, .slice gx nb cb]).below hb (by simp <;> omega)
  simp only [World.size_alloc] at k6 k7
  have hB := hB0.trans (hb.mono hB0.size)
  have hlbo := k7.lt
  clear hb hB0
  have ro := row_rd' hn.out hrow
  have rol := Nat.le_refl W1.heap.size
  obtain ⟨bo, hbo⟩ : ∃ bo, W1.heap.size = bo := ⟨_, rfl⟩
  rw [hbo] at hlbo
  have kx := Blk.new W1 24 #[.int .i64 iw, .int .i64 ih, .slice so n co]
  obtain ⟨V0, hW⟩ : ∃ V0, W1.alloc (.cells #[.int .i64 iw, .int .i64 ih, .slice so n co] 24) = V0 := ⟨_, rfl⟩
  have hb : Below W1.heap.size W1 V0 := alloc_below hW
  rw [hW, hbo] at kx
  replace k5 := k5.below hb k5.lt
  replace k6 := k6.below hb k6.lt
  replace k7 := k7.below hb k7.lt
  replace ro := ro.below (Nat.le_refl _) (hb.mono rol)
  replace rol := Nat.le_trans rol hb.size
  replace hB := hB.trans (hb.mono hB.size)
  have m0 := k5.cell (i := 0) rfl
  have m1 := k5.cell (i := 1) rfl
  have m2 := k5.cell (i := 2) rfl
  have s0 := k6.cell (i := 0) rfl
  have s1 := k6.cell (i := 1) rfl
  have s2 := k6.cell (i := 2) rfl
  have t0 := k7.cell (i := 0) rfl
  have t1 := k7.cell (i := 1) rfl
  have t2 := k7.cell (i := 2) rfl
  have o0 := kx.cell (i := 0) rfl
  have o1 := kx.cell (i := 1) rfl
  have o2 := kx.cell (i := 2) rfl
  go_wp2_with fail
  clear hW hb hrow
  rw [hbo] at ro rol
  have lk5 := k5.lt
  have lk6 := k6.lt
  have lk7 := k7.lt
  have lbo : w.heap.size + 1 + 1 < bo := hlbo
  clear hbo hlbo

  have hcall := Convolve_any iw ih so co n xs hn aw ah ax ca na A hna bd hd1 hd2 _ (by omega) (ro.mono rol) hma ((hra.below (Nat.le_refl _) hB).mono hB.size)
  rw [hR1.out] at hcall
  refine hcall.mono ?_
  clear hcall
  rintro e V1 ⟨⟨v, rfl, hv⟩, hb⟩
  obtain ⟨sl, rfl, hrow⟩ := hv
  obtain ⟨srowxa, srowxc, rfl⟩ := row_slice hrow
  have rowx := row_base hrow rol
  clear hrow
  clear m0 m1 m2 s0 s1 s2 t0 t1 t2 o0 o1 o2
  replace k5 := k5.below hb k5.lt
  replace k6 := k6.below hb k6.lt
  replace k7 := k7.below hb k7.lt
  replace kx := kx.below hb kx.lt
  replace ro := ro.below (Nat.le_refl _) (hb.mono rol)
  replace rol := Nat.le_trans rol hb.size
  replace hB := hB.trans (hb.mono hB.size)
  have m0 := k5.cell (i := 0) rfl
  have m1 := k5.cell (i := 1) rfl
  have m2 := k5.cell (i := 2) rfl
  have s0 := k6.cell (i := 0) rfl
  have s1 := k6.cell (i := 1) rfl
  have s2 := k6.cell (i := 2) rfl
  have t0 := k7.cell (i := 0) rfl
  have t1 := k7.cell (i := 1) rfl
  have t2 := k7.cell (i := 2) rfl
  have o0 := kx.cell (i := 0) rfl
  have o1 := kx.cell (i := 1) rfl
  have o2 := kx.cell (i := 2) rfl
  clear hb
  obtain ⟨V2, hW⟩ : ∃ V2, V1.alloc (.cells #[.int .i64 q1w, .int .i64 q1h, .slice srowxa q1px.length srowxc] 24) = V2 := ⟨_, rfl⟩
  obtain ⟨bx, hbx⟩ : ∃ bx, V1.heap.size = bx := ⟨_, rfl⟩
  have k12 := Blk.new V1 24 #[.int .i64 q1w, .int .i64 q1h, .slice srowxa q1px.length srowxc]
  rw [hW, hbx] at k12
  have hb : Below V1.heap.size V1 V2 := alloc_below hW
  have k5' := k5.below hb k5.lt
  have lk5k12 := k5.lt
  rw [hbx] at lk5k12
  have k6' := k6.below hb k6.lt
  have lk6k12 := k6.lt
  rw [hbx] at lk6k12
  have k7' := k7.below hb k7.lt
  have lk7k12 := k7.lt
  rw [hbx] at lk7k12
  have kx' := kx.below hb kx.lt
  have lkxk12 := kx.lt
  rw [hbx] at lkxk12
  have m0' := k5'.cell (i := 0) rfl
  have m1' := k5'.cell (i := 1) rfl
  have m2' := k5'.cell (i := 2) rfl
  have s0' := k6'.cell (i := 0) rfl
  have s1' := k6'.cell (i := 1) rfl
  have s2' := k6'.cell (i := 2) rfl
  have t0' := k7'.cell (i := 0) rfl
  have t1' := k7'.cell (i := 1) rfl
  have t2' := k7'.cell (i := 2) rfl
  have o0' := kx'.cell (i := 0) rfl
  have o1' := kx'.cell (i := 1) rfl
  have o2' := kx'.cell (i := 2) rfl
  have x0 := k12.cell (i := 0) rfl
  have x1 := k12.cell (i := 1) rfl
  have x2 := k12.cell (i := 2) rfl
  have fx0 := k12.frozen 0
  have fx1 := k12.frozen 1
  have fx2 := k12.frozen 2
  go_wp2_with fail
  clear hW
  have lrok12 := rol
  rw [hbx] at lrok12
  clear hbx
  clear m0 m1 m2 s0 s1 s2 t0 t1 t2 o0 o1 o2
  clear m0' m1' m2' s0' s1' s2' t0' t1' t2' o0' o1' o2'
  replace k5 := k5'
  clear k5'
  replace k6 := k6'
  clear k6'
  replace k7 := k7'
  clear k7'
  replace kx := kx'
  clear kx'
  have m0 := k5.cell (i := 0) rfl
  have m1 := k5.cell (i := 1) rfl
  have m2 := k5.cell (i := 2) rfl
  have s0 := k6.cell (i := 0) rfl
  have s1 := k6.cell (i := 1) rfl
  have s2 := k6.cell (i := 2) rfl
  have t0 := k7.cell (i := 0) rfl
  have t1 := k7.cell (i := 1) rfl
  have t2 := k7.cell (i := 2) rfl
  have o0 := kx.cell (i := 0) rfl
  have o1 := kx.cell (i := 1) rfl
  have o2 := kx.cell (i := 2) rfl
  replace ro := ro.below (Nat.le_refl _) (hb.mono rol)
  replace rol := Nat.le_trans rol hb.size
  replace rowx := row_below rowx hb
  replace hB := hB.trans (hb.mono hB.size)
  clear hb

  have hcall := rConvolve_any iw ih a c n xs hn aw ah ax ca na A hna bd hd1 hd2 _ (by omega) ((hr.below (Nat.le_refl _) hB).mono hB.size) hma ((hra.below (Nat.le_refl _) hB).mono hB.size)
  rw [hR1.out] at hcall
  refine hcall.mono ?_
  clear hcall
  rintro e V3 ⟨⟨v, rfl, hv⟩, hb⟩
  obtain ⟨sl, rfl, hrow⟩ := hv
  obtain ⟨srowya, srowyc, rfl⟩ := row_slice hrow
  have rowy := row_base hrow rol
  clear hrow
  clear m0 m1 m2 s0 s1 s2 t0 t1 t2 o0 o1 o2 x0 x1 x2 fx0 fx1 fx2
  replace k5 := k5.below hb k5.lt
  replace k6 := k6.below hb k6.lt
  replace k7 := k7.below hb k7.lt
  replace kx := kx.below hb kx.lt
  replace k12 := k12.below hb k12.lt
  replace ro := ro.below (Nat.le_refl _) (hb.mono rol)
  replace rol := Nat.le_trans rol hb.size
  replace rowx := row_below rowx hb
  replace hB := hB.trans (hb.mono hB.size)
  have m0 := k5.cell (i := 0) rfl
  have m1 := k5.cell (i := 1) rfl
  have m2 := k5.cell (i := 2) rfl
  have s0 := k6.cell (i := 0) rfl
  have s1 := k6.cell (i := 1) rfl
  have s2 := k6.cell (i := 2) rfl
  have t0 := k7.cell (i := 0) rfl
  have t1 := k7.cell (i := 1) rfl
  have t2 := k7.cell (i := 2) rfl
  have o0 := kx.cell (i := 0) rfl
  have o1 := kx.cell (i := 1) rfl
  have o2 := kx.cell (i := 2) rfl
  have x0 := k12.cell (i := 0) rfl
  have x1 := k12.cell (i := 1) rfl
  have x2 := k12.cell (i := 2) rfl
  have fx0 := k12.frozen 0
  have fx1 := k12.frozen 1
  have fx2 := k12.frozen 2
  clear hb
  obtain ⟨V4, hW⟩ : ∃ V4, V3.alloc (.cells #[.int .i64 q1w, .int .i64 q1h, .slice srowya q1px.length srowyc] 24) = V4 := ⟨_, rfl⟩
  obtain ⟨byy, hbx⟩ : ∃ byy, V3.heap.size = byy := ⟨_, rfl⟩
  have k14 := Blk.new V3 24 #[.int .i64 q1w, .int .i64 q1h, .slice srowya q1px.length srowyc]
  rw [hW, hbx] at k14
  have hb : Below V3.heap.size V3 V4 := alloc_below hW
  have k5' := k5.below hb k5.lt
  have lk5k14 := k5.lt
  rw [hbx] at lk5k14
  have k6' := k6.below hb k6.lt
  have lk6k14 := k6.lt
  rw [hbx] at lk6k14
  have k7' := k7.below hb k7.lt
  have lk7k14 := k7.lt
  rw [hbx] at lk7k14
  have kx' := kx.below hb kx.lt
  have lkxk14 := kx.lt
  rw [hbx] at lkxk14
  have k12' := k12.below hb k12.lt
  have lk12k14 := k12.lt
  rw [hbx] at lk12k14
  have m0' := k5'.cell (i := 0) rfl
  have m1' := k5'.cell (i := 1) rfl
  have m2' := k5'.cell (i := 2) rfl
  have s0' := k6'.cell (i := 0) rfl
  have s1' := k6'.cell (i := 1) rfl
  have s2' := k6'.cell (i := 2) rfl
  have t0' := k7'.cell (i := 0) rfl
  have t1' := k7'.cell (i := 1) rfl
  have t2' := k7'.cell (i := 2) rfl
  have o0' := kx'.cell (i := 0) rfl
  have o1' := kx'.cell (i := 1) rfl
  have o2' := kx'.cell (i := 2) rfl
  have x0' := k12'.cell (i := 0) rfl
  have x1' := k12'.cell (i := 1) rfl
  have x2' := k12'.cell (i := 2) rfl
  have fx0' := k12'.frozen 0
  have fx1' := k12'.frozen 1
  have fx2' := k12'.frozen 2
  have y0 := k14.cell (i := 0) rfl
  have y1 := k14.cell (i := 1) rfl
  have y2 := k14.cell (i := 2) rfl
  have fy0 := k14.frozen 0
  have fy1 := k14.frozen 1
  have fy2 := k14.frozen 2
  go_wp2_with fail
  clear hW
  have lrok14 := rol
  rw [hbx] at lrok14
  clear hbx
  clear m0 m1 m2 s0 s1 s2 t0 t1 t2 o0 o1 o2 x0 x1 x2 fx0 fx1 fx2
  clear m0' m1' m2' s0' s1' s2' t0' t1' t2' o0' o1' o2' x0' x1' x2' fx0' fx1' fx2'
  replace k5 := k5'
  clear k5'
  replace k6 := k6'
  clear k6'
  replace k7 := k7'
  clear k7'
  replace kx := kx'
  clear kx'
  replace k12 := k12'
  clear k12'
  have m0 := k5.cell (i := 0) rfl
  have m1 := k5.cell (i := 1) rfl
  have m2 := k5.cell (i := 2) rfl
  have s0 := k6.cell (i := 0) rfl
  have s1 := k6.cell (i := 1) rfl
  have s2 := k6.cell (i := 2) rfl
  have t0 := k7.cell (i := 0) rfl
  have t1 := k7.cell (i := 1) rfl
  have t2 := k7.cell (i := 2) rfl
  have o0 := kx.cell (i := 0) rfl
  have o1 := kx.cell (i := 1) rfl
  have o2 := kx.cell (i := 2) rfl
  have x0 := k12.cell (i := 0) rfl
  have x1 := k12.cell (i := 1) rfl
  have x2 := k12.cell (i := 2) rfl
  have fx0 := k12.frozen 0
  have fx1 := k12.frozen 1
  have fx2 := k12.frozen 2
  replace ro := ro.below (Nat.le_refl _) (hb.mono rol)
  replace rol := Nat.le_trans rol hb.size
  replace rowx := row_below rowx hb
  replace rowy := row_below rowy hb
  replace hB := hB.trans (hb.mono hB.size)
  clear hb
  have hlx := Lib.hid (row_max rowx)

  refine (Same_eq q1w q1h srowxa srowya srowxc srowyc q1px.length q1px (Lib.hid rfl) _ hlx.out (row_rd rowx) (row_rd rowy)).mono ?_
  rintro e V5 ⟨rfl, hb⟩
  clear m0 m1 m2 s0 s1 s2 t0 t1 t2 o0 o1 o2 x0 x1 x2 fx0 fx1 fx2 y0 y1 y2 fy0 fy1 fy2
  replace k5 := k5.below hb k5.lt
  replace k6 := k6.below hb k6.lt
  replace k7 := k7.below hb k7.lt
  replace kx := kx.below hb kx.lt
  replace k12 := k12.below hb k12.lt
  replace k14 := k14.below hb k14.lt
  replace ro := ro.below (Nat.le_refl _) (hb.mono rol)
  replace rol := Nat.le_trans rol hb.size
  replace rowx := row_below rowx hb
  replace rowy := row_below rowy hb
  replace hB := hB.trans (hb.mono hB.size)
  have m0 := k5.cell (i := 0) rfl
  have m1 := k5.cell (i := 1) rfl
  have m2 := k5.cell (i := 2) rfl
  have s0 := k6.cell (i := 0) rfl
  have s1 := k6.cell (i := 1) rfl
  have s2 := k6.cell (i := 2) rfl
  have t0 := k7.cell (i := 0) rfl
  have t1 := k7.cell (i := 1) rfl
  have t2 := k7.cell (i := 2) rfl
  have o0 := kx.cell (i := 0) rfl
  have o1 := kx.cell (i := 1) rfl
  have o2 := kx.cell (i := 2) rfl
  have x0 := k12.cell (i := 0) rfl
  have x1 := k12.cell (i := 1) rfl
  have x2 := k12.cell (i := 2) rfl
  have fx0 := k12.frozen 0
  have fx1 := k12.frozen 1
  have fx2 := k12.frozen 2
  have y0 := k14.cell (i := 0) rfl
  have y1 := k14.cell (i := 1) rfl
  have y2 := k14.cell (i := 2) rfl
  have fy0 := k14.frozen 0
  have fy1 := k14.frozen 1
  have fy2 := k14.frozen 2
  clear hb
  clear rowy
  go_wp2_with fail
  refine (spoil_any q1w q1h srowxa srowxc q1px.length q1px bo _ hlx.out rol rowx).mono ?_
  rintro e V6 ⟨⟨v, rfl⟩, hg⟩
  have hlow := rowx.lt
  clear m0 m1 m2 s0 s1 s2 t0 t1 t2 o0 o1 o2 x0 x1 x2 fx0 fx1 fx2 y0 y1 y2 fy0 fy1 fy2
  replace k5 := k5.kept hg (k5.not_row (by decide) rowx)
  replace k6 := k6.kept hg (k6.not_row (by decide) rowx)
  replace k7 := k7.kept hg (k7.not_row (by decide) rowx)
  replace kx := kx.kept hg (kx.not_row (by decide) rowx)
  replace k12 := k12.kept hg (k12.not_row (by decide) rowx)
  replace k14 := k14.kept hg (k14.not_row (by decide) rowx)
  replace ro := ro.below (Nat.le_refl _) (below_of_grown hg rol (by (intro k e; have := (hlow k e).1; omega)))
  replace rol := Nat.le_trans rol hg.size
  replace hB := hB.trans (below_of_grown hg hB.size (by (intro k e; have := (hlow k e).1; omega)))
  clear hg hlow rowx
  have m0 := k5.cell (i := 0) rfl
  have m1 := k5.cell (i := 1) rfl
  have m2 := k5.cell (i := 2) rfl
  have s0 := k6.cell (i := 0) rfl
  have s1 := k6.cell (i := 1) rfl
  have s2 := k6.cell (i := 2) rfl
  have t0 := k7.cell (i := 0) rfl
  have t1 := k7.cell (i := 1) rfl
  have t2 := k7.cell (i := 2) rfl
  have o0 := kx.cell (i := 0) rfl
  have o1 := kx.cell (i := 1) rfl
  have o2 := kx.cell (i := 2) rfl
  have x0 := k12.cell (i := 0) rfl
  have x1 := k12.cell (i := 1) rfl
  have x2 := k12.cell (i := 2) rfl
  have fx0 := k12.frozen 0
  have fx1 := k12.frozen 1
  have fx2 := k12.frozen 2
  have y0 := k14.cell (i := 0) rfl
  have y1 := k14.cell (i := 1) rfl
  have y2 := k14.cell (i := 2) rfl
  have fy0 := k14.frozen 0
  have fy1 := k14.frozen 1
  have fy2 := k14.frozen 2
  clear hlx
  go_wp2_with fail
  have hcall := Compose_any aw ah ax ca na A hna bw bh gx cb nb B hnb _ hma ((hra.below (Nat.le_refl _) hB).mono hB.size) hmb ((hrb.below (Nat.le_refl _) hB).mono hB.size)
  rw [hR2.out] at hcall
  refine hcall.mono ?_
  clear hcall
  rintro e V7 ⟨⟨v, rfl, hv⟩, hb⟩
  obtain ⟨sl, rfl, hrow⟩ := hv
  obtain ⟨srowpa, srowpc, rfl⟩ := row_slice hrow
  have rowp := row_base hrow rol
  clear hrow
  clear m0 m1 m2 s0 s1 s2 t0 t1 t2 o0 o1 o2 x0 x1 x2 fx0 fx1 fx2 y0 y1 y2 fy0 fy1 fy2
  replace k5 := k5.below hb k5.lt
  replace k6 := k6.below hb k6.lt
  replace k7 := k7.below hb k7.lt
  replace kx := kx.below hb kx.lt
  replace k12 := k12.below hb k12.lt
  replace k14 := k14.below hb k14.lt
  replace ro := ro.below (Nat.le_refl _) (hb.mono rol)
  replace rol := Nat.le_trans rol hb.size
  replace hB := hB.trans (hb.mono hB.size)
  have m0 := k5.cell (i := 0) rfl
  have m1 := k5.cell (i := 1) rfl
  have m2 := k5.cell (i := 2) rfl
  have s0 := k6.cell (i := 0) rfl
  have s1 := k6.cell (i := 1) rfl
  have s2 := k6.cell (i := 2) rfl
  have t0 := k7.cell (i := 0) rfl
  have t1 := k7.cell (i := 1) rfl
  have t2 := k7.cell (i := 2) rfl
  have o0 := kx.cell (i := 0) rfl
  have o1 := kx.cell (i := 1) rfl
  have o2 := kx.cell (i := 2) rfl
  have x0 := k12.cell (i := 0) rfl
  have x1 := k12.cell (i := 1) rfl
  have x2 := k12.cell (i := 2) rfl
  have fx0 := k12.frozen 0
  have fx1 := k12.frozen 1
  have fx2 := k12.frozen 2
  have y0 := k14.cell (i := 0) rfl
  have y1 := k14.cell (i := 1) rfl
  have y2 := k14.cell (i := 2) rfl
  have fy0 := k14.frozen 0
  have fy1 := k14.frozen 1
  have fy2 := k14.frozen 2
  clear hb
  obtain ⟨V8, hW⟩ : ∃ V8, V7.alloc (.cells #[.int .i64 q2w, .int .i64 q2h, .slice srowpa q2px.length srowpc] 64) = V8 := ⟨_, rfl⟩
  obtain ⟨bp, hbx⟩ : ∃ bp, V7.heap.size = bp := ⟨_, rfl⟩
  have k16 := Blk.new V7 64 #[.int .i64 q2w, .int .i64 q2h, .slice srowpa q2px.length srowpc]
  rw [hW, hbx] at k16
  have hb : Below V7.heap.size V7 V8 := alloc_below hW
  have k5' := k5.below hb k5.lt
  have lk5k16 := k5.lt
  rw [hbx] at lk5k16
  have k6' := k6.below hb k6.lt
  have lk6k16 := k6.lt
  rw [hbx] at lk6k16
  have k7' := k7.below hb k7.lt
  have lk7k16 := k7.lt
  rw [hbx] at lk7k16
  have kx' := kx.below hb kx.lt
  have lkxk16 := kx.lt
  rw [hbx] at lkxk16
  have k12' := k12.below hb k12.lt
  have lk12k16 := k12.lt
  rw [hbx] at lk12k16
  have k14' := k14.below hb k14.lt
  have lk14k16 := k14.lt
  rw [hbx] at lk14k16
  have m0' := k5'.cell (i := 0) rfl
  have m1' := k5'.cell (i := 1) rfl
  have m2' := k5'.cell (i := 2) rfl
  have s0' := k6'.cell (i := 0) rfl
  have s1' := k6'.cell (i := 1) rfl
  have s2' := k6'.cell (i := 2) rfl
  have t0' := k7'.cell (i := 0) rfl
  have t1' := k7'.cell (i := 1) rfl
  have t2' := k7'.cell (i := 2) rfl
  have o0' := kx'.cell (i := 0) rfl
  have o1' := kx'.cell (i := 1) rfl
  have o2' := kx'.cell (i := 2) rfl
  have x0' := k12'.cell (i := 0) rfl
  have x1' := k12'.cell (i := 1) rfl
  have x2' := k12'.cell (i := 2) rfl
  have fx0' := k12'.frozen 0
  have fx1' := k12'.frozen 1
  have fx2' := k12'.frozen 2
  have y0' := k14'.cell (i := 0) rfl
  have y1' := k14'.cell (i := 1) rfl
  have y2' := k14'.cell (i := 2) rfl
  have fy0' := k14'.frozen 0
  have fy1' := k14'.frozen 1
  have fy2' := k14'.frozen 2
  have p0 := k16.cell (i := 0) rfl
  have p1 := k16.cell (i := 1) rfl
  have p2 := k16.cell (i := 2) rfl
  have fp0 := k16.frozen 0
  have fp1 := k16.frozen 1
  have fp2 := k16.frozen 2
  go_wp2_with fail
  clear hW
  have lrok16 := rol
  rw [hbx] at lrok16
  clear hbx
  clear m0 m1 m2 s0 s1 s2 t0 t1 t2 o0 o1 o2 x0 x1 x2 fx0 fx1 fx2 y0 y1 y2 fy0 fy1 fy2
  clear m0' m1' m2' s0' s1' s2' t0' t1' t2' o0' o1' o2' x0' x1' x2' fx0' fx1' fx2' y0' y1' y2' fy0' fy1' fy2'
  replace k5 := k5'
  clear k5'
  replace k6 := k6'
  clear k6'
  replace k7 := k7'
  clear k7'
  replace kx := kx'
  clear kx'
  replace k12 := k12'
  clear k12'
  replace k14 := k14'
  clear k14'
  have m0 := k5.cell (i := 0) rfl
  have m1 := k5.cell (i := 1) rfl
  have m2 := k5.cell (i := 2) rfl
  have s0 := k6.cell (i := 0) rfl
  have s1 := k6.cell (i := 1) rfl
  have s2 := k6.cell (i := 2) rfl
  have t0 := k7.cell (i := 0) rfl
  have t1 := k7.cell (i := 1) rfl
  have t2 := k7.cell (i := 2) rfl
  have o0 := kx.cell (i := 0) rfl
  have o1 := kx.cell (i := 1) rfl
  have o2 := kx.cell (i := 2) rfl
  have x0 := k12.cell (i := 0) rfl
  have x1 := k12.cell (i := 1) rfl
  have x2 := k12.cell (i := 2) rfl
  have fx0 := k12.frozen 0
  have fx1 := k12.frozen 1
  have fx2 := k12.frozen 2
  have y0 := k14.cell (i := 0) rfl
  have y1 := k14.cell (i := 1) rfl
  have y2 := k14.cell (i := 2) rfl
  have fy0 := k14.frozen 0
  have fy1 := k14.frozen 1
  have fy2 := k14.frozen 2
  replace ro := ro.below (Nat.le_refl _) (hb.mono rol)
  replace rol := Nat.le_trans rol hb.size
  replace rowp := row_below rowp hb
  replace hB := hB.trans (hb.mono hB.size)
  clear hb

  have hcall := rCompose_any aw ah ax ca na A hna bw bh gx cb nb B hnb _ hma ((hra.below (Nat.le_refl _) hB).mono hB.size) hmb ((hrb.below (Nat.le_refl _) hB).mono hB.size)
  rw [hR2.out] at hcall
  refine hcall.mono ?_
  clear hcall
  rintro e V9 ⟨⟨v, rfl, hv⟩, hb⟩
  obtain ⟨sl, rfl, hrow⟩ := hv
  obtain ⟨srowqa, srowqc, rfl⟩ := row_slice hrow
  have rowq := row_base hrow rol
  clear hrow
  clear m0 m1 m2 s0 s1 s2 t0 t1 t2 o0 o1 o2 x0 x1 x2 fx0 fx1 fx2 y0 y1 y2 fy0 fy1 fy2 p0 p1 p2 fp0 fp1 fp2
  replace k5 := k5.below hb k5.lt
  replace k6 := k6.below hb k6.lt
  replace k7 := k7.below hb k7.lt
  replace kx := kx.below hb kx.lt
  replace k12 := k12.below hb k12.lt
  replace k14 := k14.below hb k14.lt
  replace k16 := k16.below hb k16.lt
  replace ro := ro.below (Nat.le_refl _) (hb.mono rol)
  replace rol := Nat.le_trans rol hb.size
  replace rowp := row_below rowp hb
  replace hB := hB.trans (hb.mono hB.size)
  have m0 := k5.cell (i := 0) rfl
  have m1 := k5.cell (i := 1) rfl
  have m2 := k5.cell (i := 2) rfl
  have s0 := k6.cell (i := 0) rfl
  have s1 := k6.cell (i := 1) rfl
  have s2 := k6.cell (i := 2) rfl
  have t0 := k7.cell (i := 0) rfl
  have t1 := k7.cell (i := 1) rfl
  have t2 := k7.cell (i := 2) rfl
  have o0 := kx.cell (i := 0) rfl
  have o1 := kx.cell (i := 1) rfl
  have o2 := kx.cell (i := 2) rfl
  have x0 := k12.cell (i := 0) rfl
  have x1 := k12.cell (i := 1) rfl
  have x2 := k12.cell (i := 2) rfl
  have fx0 := k12.frozen 0
  have fx1 := k12.frozen 1
  have fx2 := k12.frozen 2
  have y0 := k14.cell (i := 0) rfl
  have y1 := k14.cell (i := 1) rfl
  have y2 := k14.cell (i := 2) rfl
  have fy0 := k14.frozen 0
  have fy1 := k14.frozen 1
  have fy2 := k14.frozen 2
  have p0 := k16.cell (i := 0) rfl
  have p1 := k16.cell (i := 1) rfl
  have p2 := k16.cell (i := 2) rfl
  have fp0 := k16.frozen 0
  have fp1 := k16.frozen 1
  have fp2 := k16.frozen 2
  clear hb
  obtain ⟨V10, hW⟩ : ∃ V10, V9.alloc (.cells #[.int .i64 q2w, .int .i64 q2h, .slice srowqa q2px.length srowqc] 64) = V10 := ⟨_, rfl⟩
  obtain ⟨bq, hbx⟩ : ∃ bq, V9.heap.size = bq := ⟨_, rfl⟩
  have k18 := Blk.new V9 64 #[.int .i64 q2w, .int .i64 q2h, .slice srowqa q2px.length srowqc]
  rw [hW, hbx] at k18
  have hb : Below V9.heap.size V9 V10 := alloc_below hW
  have k5' := k5.below hb k5.lt
  have lk5k18 := k5.lt
  rw [hbx] at lk5k18
  have k6' := k6.below hb k6.lt
  have lk6k18 := k6.lt
  rw [hbx] at lk6k18
  have k7' := k7.below hb k7.lt
  have lk7k18 := k7.lt
  rw [hbx] at lk7k18
  have kx' := kx.below hb kx.lt
  have lkxk18 := kx.lt
  rw [hbx] at lkxk18
  have k12' := k12.below hb k12.lt
  have lk12k18 := k12.lt
  rw [hbx] at lk12k18
  have k14' := k14.below hb k14.lt
  have lk14k18 := k14.lt
  rw [hbx] at lk14k18
  have k16' := k16.below hb k16.lt
  have lk16k18 := k16.lt
  rw [hbx] at lk16k18
  have m0' := k5'.cell (i := 0) rfl
  have m1' := k5'.cell (i := 1) rfl
  have m2' := k5'.cell (i := 2) rfl
  have s0' := k6'.cell (i := 0) rfl
  have s1' := k6'.cell (i := 1) rfl
  have s2' := k6'.cell (i := 2) rfl
  have t0' := k7'.cell (i := 0) rfl
  have t1' := k7'.cell (i := 1) rfl
  have t2' := k7'.cell (i := 2) rfl
  have o0' := kx'.cell (i := 0) rfl
  have o1' := kx'.cell (i := 1) rfl
  have o2' := kx'.cell (i := 2) rfl
  have x0' := k12'.cell (i := 0) rfl
  have x1' := k12'.cell (i := 1) rfl
  have x2' := k12'.cell (i := 2) rfl
  have fx0' := k12'.frozen 0
  have fx1' := k12'.frozen 1
  have fx2' := k12'.frozen 2
  have y0' := k14'.cell (i := 0) rfl
  have y1' := k14'.cell (i := 1) rfl
  have y2' := k14'.cell (i := 2) rfl
  have fy0' := k14'.frozen 0
  have fy1' := k14'.frozen 1
  have fy2' := k14'.frozen 2
  have p0' := k16'.cell (i := 0) rfl
  have p1' := k16'.cell (i := 1) rfl
  have p2' := k16'.cell (i := 2) rfl
  have fp0' := k16'.frozen 0
  have fp1' := k16'.frozen 1
  have fp2' := k16'.frozen 2
  have q0 := k18.cell (i := 0) rfl
  have q1 := k18.cell (i := 1) rfl
  have q2 := k18.cell (i := 2) rfl
  have fq0 := k18.frozen 0
  have fq1 := k18.frozen 1
  have fq2 := k18.frozen 2
  go_wp2_with fail
  clear hW
  have lrok18 := rol
  rw [hbx] at lrok18
  clear hbx
  clear m0 m1 m2 s0 s1 s2 t0 t1 t2 o0 o1 o2 x0 x1 x2 fx0 fx1 fx2 y0 y1 y2 fy0 fy1 fy2 p0 p1 p2 fp0 fp1 fp2
  clear m0' m1' m2' s0' s1' s2' t0' t1' t2' o0' o1' o2' x0' x1' x2' fx0' fx1' fx2' y0' y1' y2' fy0' fy1' fy2' p0' p1' p2' fp0' fp1' fp2'
  replace k5 := k5'
  clear k5'
  replace k6 := k6'
  clear k6'
  replace k7 := k7'
  clear k7'
  replace kx := kx'
  clear kx'
  replace k12 := k12'
  clear k12'
  replace k14 := k14'
  clear k14'
  replace k16 := k16'
  clear k16'
  have m0 := k5.cell (i := 0) rfl
  have m1 := k5.cell (i := 1) rfl
  have m2 := k5.cell (i := 2) rfl
  have s0 := k6.cell (i := 0) rfl
  have s1 := k6.cell (i := 1) rfl
  have s2 := k6.cell (i := 2) rfl
  have t0 := k7.cell (i := 0) rfl
  have t1 := k7.cell (i := 1) rfl
  have t2 := k7.cell (i := 2) rfl
  have o0 := kx.cell (i := 0) rfl
  have o1 := kx.cell (i := 1) rfl
  have o2 := kx.cell (i := 2) rfl
  have x0 := k12.cell (i := 0) rfl
  have x1 := k12.cell (i := 1) rfl
  have x2 := k12.cell (i := 2) rfl
  have fx0 := k12.frozen 0
  have fx1 := k12.frozen 1
  have fx2 := k12.frozen 2
  have y0 := k14.cell (i := 0) rfl
  have y1 := k14.cell (i := 1) rfl
  have y2 := k14.cell (i := 2) rfl
  have fy0 := k14.frozen 0
  have fy1 := k14.frozen 1
  have fy2 := k14.frozen 2
  have p0 := k16.cell (i := 0) rfl
  have p1 := k16.cell (i := 1) rfl
  have p2 := k16.cell (i := 2) rfl
  have fp0 := k16.frozen 0
  have fp1 := k16.frozen 1
  have fp2 := k16.frozen 2
  replace ro := ro.below (Nat.le_refl _) (hb.mono rol)
  replace rol := Nat.le_trans rol hb.size
  replace rowp := row_below rowp hb
  replace rowq := row_below rowq hb
  replace hB := hB.trans (hb.mono hB.size)
  clear hb
  have hlx := Lib.hid (row_max rowp)

  refine (SameInts_eq srowpa srowqa srowpc srowqc q2px.length q2px (Lib.hid rfl) _ hlx.out (row_rd rowp) (row_rd rowq)).mono ?_
  rintro e V11 ⟨rfl, hb⟩
  clear m0 m1 m2 s0 s1 s2 t0 t1 t2 o0 o1 o2 x0 x1 x2 fx0 fx1 fx2 y0 y1 y2 fy0 fy1 fy2 p0 p1 p2 fp0 fp1 fp2 q0 q1 q2 fq0 fq1 fq2
  replace k5 := k5.below hb k5.lt
  replace k6 := k6.below hb k6.lt
  replace k7 := k7.below hb k7.lt
  replace kx := kx.below hb kx.lt
  replace k12 := k12.below hb k12.lt
  replace k14 := k14.below hb k14.lt
  replace k16 := k16.below hb k16.lt
  replace k18 := k18.below hb k18.lt
  replace ro := ro.below (Nat.le_refl _) (hb.mono rol)
  replace rol := Nat.le_trans rol hb.size
  replace rowp := row_below rowp hb
  replace rowq := row_below rowq hb
  replace hB := hB.trans (hb.mono hB.size)
  have m0 := k5.cell (i := 0) rfl
  have m1 := k5.cell (i := 1) rfl
  have m2 := k5.cell (i := 2) rfl
  have s0 := k6.cell (i := 0) rfl
  have s1 := k6.cell (i := 1) rfl
  have s2 := k6.cell (i := 2) rfl
  have t0 := k7.cell (i := 0) rfl
  have t1 := k7.cell (i := 1) rfl
  have t2 := k7.cell (i := 2) rfl
  have o0 := kx.cell (i := 0) rfl
  have o1 := kx.cell (i := 1) rfl
  have o2 := kx.cell (i := 2) rfl
  have x0 := k12.cell (i := 0) rfl
  have x1 := k12.cell (i := 1) rfl
  have x2 := k12.cell (i := 2) rfl
  have fx0 := k12.frozen 0
  have fx1 := k12.frozen 1
  have fx2 := k12.frozen 2
  have y0 := k14.cell (i := 0) rfl
  have y1 := k14.cell (i := 1) rfl
  have y2 := k14.cell (i := 2) rfl
  have fy0 := k14.frozen 0
  have fy1 := k14.frozen 1
  have fy2 := k14.frozen 2
  have p0 := k16.cell (i := 0) rfl
  have p1 := k16.cell (i := 1) rfl
  have p2 := k16.cell (i := 2) rfl
  have fp0 := k16.frozen 0
  have fp1 := k16.frozen 1
  have fp2 := k16.frozen 2
  have q0 := k18.cell (i := 0) rfl
  have q1 := k18.cell (i := 1) rfl
  have q2 := k18.cell (i := 2) rfl
  have fq0 := k18.frozen 0
  have fq1 := k18.frozen 1
  have fq2 := k18.frozen 2
  clear hb
  clear hlx
  go_wp2_with fail
  refine (Same_eq iw ih so a co c n xs hn _ (by omega) (ro.mono rol) ((hr.below (Nat.le_refl _) hB).mono hB.size)).mono ?_
  rintro e Ve ⟨rfl, hb⟩
  go_wp2_with fail
  go_ret
  exact ⟨rfl, hB.trans (hb.mono hB.size)⟩

end Go.Proofs.Ytjglfeonoiljlaa
