/- The walk of the law ImageWarps: it returns true, and nothing that lay has turned. -/
import Derived.Test.YtjglfeonoiljlaaImgG
namespace Go.Proofs.Ytjglfeonoiljlaa
open Go Go.RowKit Go.Shelf
set_option linter.unusedVariables false
set_option linter.unusedSimpArgs false

theorem below_of_grown {A C : World} {row : Option Nat} {n : Nat} (h : A.grownBy C row) (hn : n ≤ A.heap.size) (hr : ∀ k, row = some k → n ≤ k) : Below n A C := (Below.refl n A).grown h hn hr

theorem put3_grown (W : World) (B : Nat) (x y z : Value) : W.grownBy (put3 W B x y z) (some B) :=
  ⟨rfl, rfl, rfl, (put3_below (n := 0) (Nat.zero_le _) x y z).size, fun k _ hk => (put3_below_block W B k (fun e => hk (by rw [e])) x y z)⟩

theorem row_max {W : World} {base : Nat} {e : TypeId} {size : Nat} {v : Value} {k : Nat} {xs : List Value} (h : W.ownsRow base e size v k xs) : k ≤ 9223372036854775807 := by
  rcases h.2 with ⟨_, h2⟩ | ⟨g, cap, cur, _, _, _, h3, h4, _⟩
  · omega
  · unfold maxLen at h4; omega

set_option maxRecDepth 100000 in
set_option maxHeartbeats 8000000 in
theorem law_warps (iw ih : Int) (a : Option Addr) (c n : Nat) (xs : List Int) (hn : Hid (xs.length = n)) (t : WarpN) (rw rh fill : Int) (w : World) (hm : n * 8 ≤ 140737488355328) (hr : Rd w.heap.size w a xs) (hnil : Hid (a = none → n = 0 ∧ c = 0)) :
    Calls Try.prog 3 #[imv iw ih a n c, t.val, .int .i64 rw, .int .i64 rh, .int .i64 fill] w fun e w' => e = .returned (.bool true) ∧ Below w.heap.size w w' := by
  obtain ⟨⟨q1w, q1h, q1px, q1e⟩, hR⟩ : ∃ r, warpS iw ih xs t rw rh fill = r := ⟨_, rfl⟩
  have hR1 := Lib.hid hR
  clear hR
  obtain ⟨⟨q2w, q2h, q2px, q2e⟩, hR⟩ : ∃ r, turnS iw ih xs = r := ⟨_, rfl⟩
  have hR2 := Lib.hid hR
  clear hR
  obtain ⟨⟨q3w, q3h, q3px, q3e⟩, hR⟩ : ∃ r, flipS iw ih xs = r := ⟨_, rfl⟩
  have hR3 := Lib.hid hR
  clear hR
  have hB0 : Below w.heap.size w ((w.alloc (.cells #[.int .i64 iw, .int .i64 ih, .slice a n c] 24)).alloc (.cells t.cells 26)) := below_al (below_al (Below.refl _ _) _) _
  go_enter Try.func3, Try.ntmps3
  go_wp2_with fail
  refine (Twin_any iw ih a c n xs hn _ hm ((hr.below (Nat.le_refl _) hB0).mono hB0.size) hnil).mono ?_
  rintro e W1 ⟨v, rfl, ⟨sl, rfl, hrow⟩, hb⟩
  obtain ⟨so, co, rfl⟩ := row_slice hrow
  rw [hn.out] at hrow ⊢
  have k5 := ((Blk.new w 24 #[.int .i64 iw, .int .i64 ih, .slice a n c]).alloc (.cells t.cells 26)).below hb (by simp <;> omega)
  have k6 := (Blk.new (w.alloc (.cells #[.int .i64 iw, .int .i64 ih, .slice a n c] 24)) 26 t.cells).below hb (by simp <;> omega)
  simp only [World.size_alloc] at k6
  have hB := hB0.trans (hb.mono hB0.size)
  have hlbo := k6.lt
  clear hb hB0
  have ro := row_rd' hn.out hrow
  have rol := Nat.le_refl W1.heap.size
  obtain ⟨bo, hbo⟩ : ∃ bo, W1.heap.size = bo := ⟨_, rfl⟩
  rw [hbo] at hlbo
  have kx := Blk.new W1 24 #[.int .i64 iw, .int .i64 ih, .slice so n co]
  obtain ⟨V0, hW⟩ : ∃ V0, W1.alloc (.cells #[.int .i64 iw, .int .i64 ih, .slice so n co] 24) = V0 := ⟨_, rfl⟩
  have hb : Below W1.heap.size W1 V0 := alloc_below hW
  rw [hW, hbo] at kx
  replace k5 := k5.below hb k5.lt
  replace k6 := k6.below hb k6.lt
  replace ro := ro.below (Nat.le_refl _) (hb.mono rol)
  replace rol := Nat.le_trans rol hb.size
  replace hB := hB.trans (hb.mono hB.size)
  have m0 := k5.cell (i := 0) rfl
  have m1 := k5.cell (i := 1) rfl
  have m2 := k5.cell (i := 2) rfl
  have a0 := k6.cell (i := 0) rfl
  have a1 := k6.cell (i := 1) rfl
  have a2 := k6.cell (i := 2) rfl
  have a3 := k6.cell (i := 3) rfl
  have a4 := k6.cell (i := 4) rfl
  have a5 := k6.cell (i := 5) rfl
  have a6 := k6.cell (i := 6) rfl
  have o0 := kx.cell (i := 0) rfl
  have o1 := kx.cell (i := 1) rfl
  have o2 := kx.cell (i := 2) rfl
  go_wp2_with fail
  clear hW hb hrow
  rw [hbo] at ro rol
  have lk5 := k5.lt
  have lk6 := k6.lt
  have lbo : w.heap.size + 1 < bo := hlbo
  clear hbo hlbo


  have hcall := Warp_any iw ih so co n xs hn t rw rh fill _ (by omega) (ro.mono rol)
  rw [hR1.out] at hcall
  refine hcall.mono ?_
  clear hcall
  rintro e V1 ⟨⟨v, rfl, hv⟩, hb⟩
  obtain ⟨sl, rfl, hrow⟩ := hv
  obtain ⟨srowxa, srowxc, rfl⟩ := row_slice hrow
  have rowx := row_base hrow rol
  clear hrow
  clear m0 m1 m2 a0 a1 a2 a3 a4 a5 a6 o0 o1 o2
  replace k5 := k5.below hb k5.lt
  replace k6 := k6.below hb k6.lt
  replace kx := kx.below hb kx.lt
  replace ro := ro.below (Nat.le_refl _) (hb.mono rol)
  replace rol := Nat.le_trans rol hb.size
  replace hB := hB.trans (hb.mono hB.size)
  have m0 := k5.cell (i := 0) rfl
  have m1 := k5.cell (i := 1) rfl
  have m2 := k5.cell (i := 2) rfl
  have a0 := k6.cell (i := 0) rfl
  have a1 := k6.cell (i := 1) rfl
  have a2 := k6.cell (i := 2) rfl
  have a3 := k6.cell (i := 3) rfl
  have a4 := k6.cell (i := 4) rfl
  have a5 := k6.cell (i := 5) rfl
  have a6 := k6.cell (i := 6) rfl
  have o0 := kx.cell (i := 0) rfl
  have o1 := kx.cell (i := 1) rfl
  have o2 := kx.cell (i := 2) rfl
  clear hb
  obtain ⟨V2, hW⟩ : ∃ V2, V1.alloc (.cells #[.int .i64 q1w, .int .i64 q1h, .slice srowxa q1px.length srowxc] 24) = V2 := ⟨_, rfl⟩
  obtain ⟨bx, hbx⟩ : ∃ bx, V1.heap.size = bx := ⟨_, rfl⟩
  have k12 := Blk.new V1 24 #[.int .i64 q1w, .int .i64 q1h, .slice srowxa q1px.length srowxc]
  rw [hW, hbx] at k12
  have hb : Below V1.heap.size V1 V2 := alloc_below hW
  have k5' := k5.below hb k5.lt
  have lk5k12 := k5.lt
  rw [hbx] at lk5k12
  have k6' := k6.below hb k6.lt
  have lk6k12 := k6.lt
  rw [hbx] at lk6k12
  have kx' := kx.below hb kx.lt
  have lkxk12 := kx.lt
  rw [hbx] at lkxk12
  have m0' := k5'.cell (i := 0) rfl
  have m1' := k5'.cell (i := 1) rfl
  have m2' := k5'.cell (i := 2) rfl
  have a0' := k6'.cell (i := 0) rfl
  have a1' := k6'.cell (i := 1) rfl
  have a2' := k6'.cell (i := 2) rfl
  have a3' := k6'.cell (i := 3) rfl
  have a4' := k6'.cell (i := 4) rfl
  have a5' := k6'.cell (i := 5) rfl
  have a6' := k6'.cell (i := 6) rfl
  have o0' := kx'.cell (i := 0) rfl
  have o1' := kx'.cell (i := 1) rfl
  have o2' := kx'.cell (i := 2) rfl
  have x0 := k12.cell (i := 0) rfl
  have x1 := k12.cell (i := 1) rfl
  have x2 := k12.cell (i := 2) rfl
  have fx0 := k12.frozen 0
  have fx1 := k12.frozen 1
  have fx2 := k12.frozen 2
  go_wp2_with fail
  clear hW
  have lrok12 := rol
  rw [hbx] at lrok12
  clear hbx
  clear m0 m1 m2 a0 a1 a2 a3 a4 a5 a6 o0 o1 o2
  clear m0' m1' m2' a0' a1' a2' a3' a4' a5' a6' o0' o1' o2'
  replace k5 := k5'
  clear k5'
  replace k6 := k6'
  clear k6'
  replace kx := kx'
  clear kx'
  have m0 := k5.cell (i := 0) rfl
  have m1 := k5.cell (i := 1) rfl
  have m2 := k5.cell (i := 2) rfl
  have a0 := k6.cell (i := 0) rfl
  have a1 := k6.cell (i := 1) rfl
  have a2 := k6.cell (i := 2) rfl
  have a3 := k6.cell (i := 3) rfl
  have a4 := k6.cell (i := 4) rfl
  have a5 := k6.cell (i := 5) rfl
  have a6 := k6.cell (i := 6) rfl
  have o0 := kx.cell (i := 0) rfl
  have o1 := kx.cell (i := 1) rfl
  have o2 := kx.cell (i := 2) rfl
  replace ro := ro.below (Nat.le_refl _) (hb.mono rol)
  replace rol := Nat.le_trans rol hb.size
  replace rowx := row_below rowx hb
  replace hB := hB.trans (hb.mono hB.size)
  clear hb

  have hcall := rWarp_any iw ih a c n xs hn t rw rh fill _ (by omega) ((hr.below (Nat.le_refl _) hB).mono hB.size)
  rw [hR1.out] at hcall
  refine hcall.mono ?_
  clear hcall
  rintro e V3 ⟨⟨v, rfl, hv⟩, hb⟩
  obtain ⟨sl, rfl, hrow⟩ := hv
  obtain ⟨srowya, srowyc, rfl⟩ := row_slice hrow
  have rowy := row_base hrow rol
  clear hrow
  clear m0 m1 m2 a0 a1 a2 a3 a4 a5 a6 o0 o1 o2 x0 x1 x2 fx0 fx1 fx2
  replace k5 := k5.below hb k5.lt
  replace k6 := k6.below hb k6.lt
  replace kx := kx.below hb kx.lt
  replace k12 := k12.below hb k12.lt
  replace ro := ro.below (Nat.le_refl _) (hb.mono rol)
  replace rol := Nat.le_trans rol hb.size
  replace rowx := row_below rowx hb
  replace hB := hB.trans (hb.mono hB.size)
  have m0 := k5.cell (i := 0) rfl
  have m1 := k5.cell (i := 1) rfl
  have m2 := k5.cell (i := 2) rfl
  have a0 := k6.cell (i := 0) rfl
  have a1 := k6.cell (i := 1) rfl
  have a2 := k6.cell (i := 2) rfl
  have a3 := k6.cell (i := 3) rfl
  have a4 := k6.cell (i := 4) rfl
  have a5 := k6.cell (i := 5) rfl
  have a6 := k6.cell (i := 6) rfl
  have o0 := kx.cell (i := 0) rfl
  have o1 := kx.cell (i := 1) rfl
  have o2 := kx.cell (i := 2) rfl
  have x0 := k12.cell (i := 0) rfl
  have x1 := k12.cell (i := 1) rfl
  have x2 := k12.cell (i := 2) rfl
  have fx0 := k12.frozen 0
  have fx1 := k12.frozen 1
  have fx2 := k12.frozen 2
  clear hb
  obtain ⟨V4, hW⟩ : ∃ V4, V3.alloc (.cells #[.int .i64 q1w, .int .i64 q1h, .slice srowya q1px.length srowyc] 24) = V4 := ⟨_, rfl⟩
  obtain ⟨byy, hbx⟩ : ∃ byy, V3.heap.size = byy := ⟨_, rfl⟩
  have k14 := Blk.new V3 24 #[.int .i64 q1w, .int .i64 q1h, .slice srowya q1px.length srowyc]
  rw [hW, hbx] at k14
  have hb : Below V3.heap.size V3 V4 := alloc_below hW
  have k5' := k5.below hb k5.lt
  have lk5k14 := k5.lt
  rw [hbx] at lk5k14
  have k6' := k6.below hb k6.lt
  have lk6k14 := k6.lt
  rw [hbx] at lk6k14
  have kx' := kx.below hb kx.lt
  have lkxk14 := kx.lt
  rw [hbx] at lkxk14
  have k12' := k12.below hb k12.lt
  have lk12k14 := k12.lt
  rw [hbx] at lk12k14
  have m0' := k5'.cell (i := 0) rfl
  have m1' := k5'.cell (i := 1) rfl
  have m2' := k5'.cell (i := 2) rfl
  have a0' := k6'.cell (i := 0) rfl
  have a1' := k6'.cell (i := 1) rfl
  have a2' := k6'.cell (i := 2) rfl
  have a3' := k6'.cell (i := 3) rfl
  have a4' := k6'.cell (i := 4) rfl
  have a5' := k6'.cell (i := 5) rfl
  have a6' := k6'.cell (i := 6) rfl
  have o0' := kx'.cell (i := 0) rfl
  have o1' := kx'.cell (i := 1) rfl
  have o2' := kx'.cell (i := 2) rfl
  have x0' := k12'.cell (i := 0) rfl
  have x1' := k12'.cell (i := 1) rfl
  have x2' := k12'.cell (i := 2) rfl
  have fx0' := k12'.frozen 0
  have fx1' := k12'.frozen 1
  have fx2' := k12'.frozen 2
  have y0 := k14.cell (i := 0) rfl
  have y1 := k14.cell (i := 1) rfl
  have y2 := k14.cell (i := 2) rfl
  have fy0 := k14.frozen 0
  have fy1 := k14.frozen 1
  have fy2 := k14.frozen 2
  go_wp2_with fail
  clear hW
  have lrok14 := rol
  rw [hbx] at lrok14
  clear hbx
  clear m0 m1 m2 a0 a1 a2 a3 a4 a5 a6 o0 o1 o2 x0 x1 x2 fx0 fx1 fx2
  clear m0' m1' m2' a0' a1' a2' a3' a4' a5' a6' o0' o1' o2' x0' x1' x2' fx0' fx1' fx2'
  replace k5 := k5'
  clear k5'
  replace k6 := k6'
  clear k6'
  replace kx := kx'
  clear kx'
  replace k12 := k12'
  clear k12'
  have m0 := k5.cell (i := 0) rfl
  have m1 := k5.cell (i := 1) rfl
  have m2 := k5.cell (i := 2) rfl
  have a0 := k6.cell (i := 0) rfl
  have a1 := k6.cell (i := 1) rfl
  have a2 := k6.cell (i := 2) rfl
  have a3 := k6.cell (i := 3) rfl
  have a4 := k6.cell (i := 4) rfl
  have a5 := k6.cell (i := 5) rfl
  have a6 := k6.cell (i := 6) rfl
  have o0 := kx.cell (i := 0) rfl
  have o1 := kx.cell (i := 1) rfl
  have o2 := kx.cell (i := 2) rfl
  have x0 := k12.cell (i := 0) rfl
  have x1 := k12.cell (i := 1) rfl
  have x2 := k12.cell (i := 2) rfl
  have fx0 := k12.frozen 0
  have fx1 := k12.frozen 1
  have fx2 := k12.frozen 2
  replace ro := ro.below (Nat.le_refl _) (hb.mono rol)
  replace rol := Nat.le_trans rol hb.size
  replace rowx := row_below rowx hb
  replace rowy := row_below rowy hb
  replace hB := hB.trans (hb.mono hB.size)
  clear hb
  have hlx := Lib.hid (row_max rowx)

  refine (Same_eq q1w q1h srowxa srowya srowxc srowyc q1px.length q1px (Lib.hid rfl) _ hlx.out (row_rd rowx) (row_rd rowy)).mono ?_
  rintro e V5 ⟨rfl, hb⟩
  clear m0 m1 m2 a0 a1 a2 a3 a4 a5 a6 o0 o1 o2 x0 x1 x2 fx0 fx1 fx2 y0 y1 y2 fy0 fy1 fy2
  replace k5 := k5.below hb k5.lt
  replace k6 := k6.below hb k6.lt
  replace kx := kx.below hb kx.lt
  replace k12 := k12.below hb k12.lt
  replace k14 := k14.below hb k14.lt
  replace ro := ro.below (Nat.le_refl _) (hb.mono rol)
  replace rol := Nat.le_trans rol hb.size
  replace rowx := row_below rowx hb
  replace rowy := row_below rowy hb
  replace hB := hB.trans (hb.mono hB.size)
  have m0 := k5.cell (i := 0) rfl
  have m1 := k5.cell (i := 1) rfl
  have m2 := k5.cell (i := 2) rfl
  have a0 := k6.cell (i := 0) rfl
  have a1 := k6.cell (i := 1) rfl
  have a2 := k6.cell (i := 2) rfl
  have a3 := k6.cell (i := 3) rfl
  have a4 := k6.cell (i := 4) rfl
  have a5 := k6.cell (i := 5) rfl
  have a6 := k6.cell (i := 6) rfl
  have o0 := kx.cell (i := 0) rfl
  have o1 := kx.cell (i := 1) rfl
  have o2 := kx.cell (i := 2) rfl
  have x0 := k12.cell (i := 0) rfl
  have x1 := k12.cell (i := 1) rfl
  have x2 := k12.cell (i := 2) rfl
  have fx0 := k12.frozen 0
  have fx1 := k12.frozen 1
  have fx2 := k12.frozen 2
  have y0 := k14.cell (i := 0) rfl
  have y1 := k14.cell (i := 1) rfl
  have y2 := k14.cell (i := 2) rfl
  have fy0 := k14.frozen 0
  have fy1 := k14.frozen 1
  have fy2 := k14.frozen 2
  clear hb
  clear rowy
  go_wp2_with fail
  refine (spoil_any q1w q1h srowxa srowxc q1px.length q1px bo _ hlx.out rol rowx).mono ?_
  rintro e V6 ⟨⟨v, rfl⟩, hg⟩
  have hlow := rowx.lt
  clear m0 m1 m2 a0 a1 a2 a3 a4 a5 a6 o0 o1 o2 x0 x1 x2 fx0 fx1 fx2 y0 y1 y2 fy0 fy1 fy2
  replace k5 := k5.kept hg (k5.not_row (by decide) rowx)
  replace k6 := k6.kept hg (k6.not_row (by decide) rowx)
  replace kx := kx.kept hg (kx.not_row (by decide) rowx)
  replace k12 := k12.kept hg (k12.not_row (by decide) rowx)
  replace k14 := k14.kept hg (k14.not_row (by decide) rowx)
  replace ro := ro.below (Nat.le_refl _) (below_of_grown hg rol (by (intro k e; have := (hlow k e).1; omega)))
  replace rol := Nat.le_trans rol hg.size
  replace hB := hB.trans (below_of_grown hg hB.size (by (intro k e; have := (hlow k e).1; omega)))
  clear hg hlow rowx
  have m0 := k5.cell (i := 0) rfl
  have m1 := k5.cell (i := 1) rfl
  have m2 := k5.cell (i := 2) rfl
  have a0 := k6.cell (i := 0) rfl
  have a1 := k6.cell (i := 1) rfl
  have a2 := k6.cell (i := 2) rfl
  have a3 := k6.cell (i := 3) rfl
  have a4 := k6.cell (i := 4) rfl
  have a5 := k6.cell (i := 5) rfl
  have a6 := k6.cell (i := 6) rfl
  have o0 := kx.cell (i := 0) rfl
  have o1 := kx.cell (i := 1) rfl
  have o2 := kx.cell (i := 2) rfl
  have x0 := k12.cell (i := 0) rfl
  have x1 := k12.cell (i := 1) rfl
  have x2 := k12.cell (i := 2) rfl
  have fx0 := k12.frozen 0
  have fx1 := k12.frozen 1
  have fx2 := k12.frozen 2
  have y0 := k14.cell (i := 0) rfl
  have y1 := k14.cell (i := 1) rfl
  have y2 := k14.cell (i := 2) rfl
  have fy0 := k14.frozen 0
  have fy1 := k14.frozen 1
  have fy2 := k14.frozen 2
  clear hlx
  go_wp2_with fail
  have hcall := Turn_any iw ih so co n xs hn _ (by omega) (ro.mono rol)
  rw [hR2.out] at hcall
  refine hcall.mono ?_
  clear hcall
  rintro e V7 ⟨⟨v, rfl, hv⟩, hb⟩
  obtain ⟨sl, rfl, hrow⟩ := hv
  obtain ⟨srowxa, srowxc, rfl⟩ := row_slice hrow
  have rowx := row_base hrow rol
  clear hrow
  clear m0 m1 m2 a0 a1 a2 a3 a4 a5 a6 o0 o1 o2 x0 x1 x2 fx0 fx1 fx2 y0 y1 y2 fy0 fy1 fy2
  replace k5 := k5.below hb k5.lt
  replace k6 := k6.below hb k6.lt
  replace kx := kx.below hb kx.lt
  replace k12 := k12.below hb k12.lt
  replace k14 := k14.below hb k14.lt
  replace ro := ro.below (Nat.le_refl _) (hb.mono rol)
  replace rol := Nat.le_trans rol hb.size
  replace hB := hB.trans (hb.mono hB.size)
  have m0 := k5.cell (i := 0) rfl
  have m1 := k5.cell (i := 1) rfl
  have m2 := k5.cell (i := 2) rfl
  have a0 := k6.cell (i := 0) rfl
  have a1 := k6.cell (i := 1) rfl
  have a2 := k6.cell (i := 2) rfl
  have a3 := k6.cell (i := 3) rfl
  have a4 := k6.cell (i := 4) rfl
  have a5 := k6.cell (i := 5) rfl
  have a6 := k6.cell (i := 6) rfl
  have o0 := kx.cell (i := 0) rfl
  have o1 := kx.cell (i := 1) rfl
  have o2 := kx.cell (i := 2) rfl
  have x0 := k12.cell (i := 0) rfl
  have x1 := k12.cell (i := 1) rfl
  have x2 := k12.cell (i := 2) rfl
  have fx0 := k12.frozen 0
  have fx1 := k12.frozen 1
  have fx2 := k12.frozen 2
  have y0 := k14.cell (i := 0) rfl
  have y1 := k14.cell (i := 1) rfl
  have y2 := k14.cell (i := 2) rfl
  have fy0 := k14.frozen 0
  have fy1 := k14.frozen 1
  have fy2 := k14.frozen 2
  clear hb
  obtain ⟨V8, hW⟩ : ∃ V8, put3 V7 bx (.int .i64 q2w) (.int .i64 q2h) (.slice srowxa q2px.length srowxc) = V8 := ⟨_, rfl⟩
  have hg : V7.grownBy V8 (some bx) := hW ▸ put3_grown _ _ _ _ _
  have k12' := put3_blk k12 (.int .i64 q2w) (.int .i64 q2h) (.slice srowxa q2px.length srowxc)
  rw [hW] at k12'
  have rowx' := put3_row rowx (k12.not_row (by decide) rowx) (.int .i64 q2w) (.int .i64 q2h) (.slice srowxa q2px.length srowxc)
  rw [hW] at rowx'
  have k5' := k5.kept hg (by simp <;> omega)
  have k6' := k6.kept hg (by simp <;> omega)
  have kx' := kx.kept hg (by simp <;> omega)
  have k14' := k14.kept hg (by simp <;> omega)
  have m0' := k5'.cell (i := 0) rfl
  have m1' := k5'.cell (i := 1) rfl
  have m2' := k5'.cell (i := 2) rfl
  have a0' := k6'.cell (i := 0) rfl
  have a1' := k6'.cell (i := 1) rfl
  have a2' := k6'.cell (i := 2) rfl
  have a3' := k6'.cell (i := 3) rfl
  have a4' := k6'.cell (i := 4) rfl
  have a5' := k6'.cell (i := 5) rfl
  have a6' := k6'.cell (i := 6) rfl
  have o0' := kx'.cell (i := 0) rfl
  have o1' := kx'.cell (i := 1) rfl
  have o2' := kx'.cell (i := 2) rfl
  have x0' := k12'.cell (i := 0) rfl
  have x1' := k12'.cell (i := 1) rfl
  have x2' := k12'.cell (i := 2) rfl
  have fx0' := k12'.frozen 0
  have fx1' := k12'.frozen 1
  have fx2' := k12'.frozen 2
  have y0' := k14'.cell (i := 0) rfl
  have y1' := k14'.cell (i := 1) rfl
  have y2' := k14'.cell (i := 2) rfl
  have fy0' := k14'.frozen 0
  have fy1' := k14'.frozen 1
  have fy2' := k14'.frozen 2
  go_wp2_with fail
  clear hW
  clear m0 m1 m2 a0 a1 a2 a3 a4 a5 a6 o0 o1 o2 x0 x1 x2 fx0 fx1 fx2 y0 y1 y2 fy0 fy1 fy2
  clear m0' m1' m2' a0' a1' a2' a3' a4' a5' a6' o0' o1' o2' x0' x1' x2' fx0' fx1' fx2' y0' y1' y2' fy0' fy1' fy2'
  replace k5 := k5'
  clear k5'
  replace k6 := k6'
  clear k6'
  replace kx := kx'
  clear kx'
  replace k12 := k12'
  clear k12'
  replace k14 := k14'
  clear k14'
  have m0 := k5.cell (i := 0) rfl
  have m1 := k5.cell (i := 1) rfl
  have m2 := k5.cell (i := 2) rfl
  have a0 := k6.cell (i := 0) rfl
  have a1 := k6.cell (i := 1) rfl
  have a2 := k6.cell (i := 2) rfl
  have a3 := k6.cell (i := 3) rfl
  have a4 := k6.cell (i := 4) rfl
  have a5 := k6.cell (i := 5) rfl
  have a6 := k6.cell (i := 6) rfl
  have o0 := kx.cell (i := 0) rfl
  have o1 := kx.cell (i := 1) rfl
  have o2 := kx.cell (i := 2) rfl
  have x0 := k12.cell (i := 0) rfl
  have x1 := k12.cell (i := 1) rfl
  have x2 := k12.cell (i := 2) rfl
  have fx0 := k12.frozen 0
  have fx1 := k12.frozen 1
  have fx2 := k12.frozen 2
  have y0 := k14.cell (i := 0) rfl
  have y1 := k14.cell (i := 1) rfl
  have y2 := k14.cell (i := 2) rfl
  have fy0 := k14.frozen 0
  have fy1 := k14.frozen 1
  have fy2 := k14.frozen 2
  replace ro := ro.below (Nat.le_refl _) (below_of_grown hg rol (by intro k e; cases e; omega))
  replace rol := Nat.le_trans rol hg.size
  replace rowx := rowx'
  clear rowx'
  replace hB := hB.trans (below_of_grown hg hB.size (by intro k e; cases e; omega))
  clear hg

  have hcall := rTurn_any iw ih a c n xs hn _ (by omega) ((hr.below (Nat.le_refl _) hB).mono hB.size)
  rw [hR2.out] at hcall
  refine hcall.mono ?_
  clear hcall
  rintro e V9 ⟨⟨v, rfl, hv⟩, hb⟩
  obtain ⟨sl, rfl, hrow⟩ := hv
  obtain ⟨srowya, srowyc, rfl⟩ := row_slice hrow
  have rowy := row_base hrow rol
  clear hrow
  clear m0 m1 m2 a0 a1 a2 a3 a4 a5 a6 o0 o1 o2 x0 x1 x2 fx0 fx1 fx2 y0 y1 y2 fy0 fy1 fy2
  replace k5 := k5.below hb k5.lt
  replace k6 := k6.below hb k6.lt
  replace kx := kx.below hb kx.lt
  replace k12 := k12.below hb k12.lt
  replace k14 := k14.below hb k14.lt
  replace ro := ro.below (Nat.le_refl _) (hb.mono rol)
  replace rol := Nat.le_trans rol hb.size
  replace rowx := row_below rowx hb
  replace hB := hB.trans (hb.mono hB.size)
  have m0 := k5.cell (i := 0) rfl
  have m1 := k5.cell (i := 1) rfl
  have m2 := k5.cell (i := 2) rfl
  have a0 := k6.cell (i := 0) rfl
  have a1 := k6.cell (i := 1) rfl
  have a2 := k6.cell (i := 2) rfl
  have a3 := k6.cell (i := 3) rfl
  have a4 := k6.cell (i := 4) rfl
  have a5 := k6.cell (i := 5) rfl
  have a6 := k6.cell (i := 6) rfl
  have o0 := kx.cell (i := 0) rfl
  have o1 := kx.cell (i := 1) rfl
  have o2 := kx.cell (i := 2) rfl
  have x0 := k12.cell (i := 0) rfl
  have x1 := k12.cell (i := 1) rfl
  have x2 := k12.cell (i := 2) rfl
  have fx0 := k12.frozen 0
  have fx1 := k12.frozen 1
  have fx2 := k12.frozen 2
  have y0 := k14.cell (i := 0) rfl
  have y1 := k14.cell (i := 1) rfl
  have y2 := k14.cell (i := 2) rfl
  have fy0 := k14.frozen 0
  have fy1 := k14.frozen 1
  have fy2 := k14.frozen 2
  clear hb
  obtain ⟨V10, hW⟩ : ∃ V10, put3 V9 byy (.int .i64 q2w) (.int .i64 q2h) (.slice srowya q2px.length srowyc) = V10 := ⟨_, rfl⟩
  have hg : V9.grownBy V10 (some byy) := hW ▸ put3_grown _ _ _ _ _
  have k14' := put3_blk k14 (.int .i64 q2w) (.int .i64 q2h) (.slice srowya q2px.length srowyc)
  rw [hW] at k14'
  have rowx' := put3_row rowx (k14.not_row (by decide) rowx) (.int .i64 q2w) (.int .i64 q2h) (.slice srowya q2px.length srowyc)
  rw [hW] at rowx'
  have rowy' := put3_row rowy (k14.not_row (by decide) rowy) (.int .i64 q2w) (.int .i64 q2h) (.slice srowya q2px.length srowyc)
  rw [hW] at rowy'
  have k5' := k5.kept hg (by simp <;> omega)
  have k6' := k6.kept hg (by simp <;> omega)
  have kx' := kx.kept hg (by simp <;> omega)
  have k12' := k12.kept hg (by simp <;> omega)
  have m0' := k5'.cell (i := 0) rfl
  have m1' := k5'.cell (i := 1) rfl
  have m2' := k5'.cell (i := 2) rfl
  have a0' := k6'.cell (i := 0) rfl
  have a1' := k6'.cell (i := 1) rfl
  have a2' := k6'.cell (i := 2) rfl
  have a3' := k6'.cell (i := 3) rfl
  have a4' := k6'.cell (i := 4) rfl
  have a5' := k6'.cell (i := 5) rfl
  have a6' := k6'.cell (i := 6) rfl
  have o0' := kx'.cell (i := 0) rfl
  have o1' := kx'.cell (i := 1) rfl
  have o2' := kx'.cell (i := 2) rfl
  have x0' := k12'.cell (i := 0) rfl
  have x1' := k12'.cell (i := 1) rfl
  have x2' := k12'.cell (i := 2) rfl
  have fx0' := k12'.frozen 0
  have fx1' := k12'.frozen 1
  have fx2' := k12'.frozen 2
  have y0' := k14'.cell (i := 0) rfl
  have y1' := k14'.cell (i := 1) rfl
  have y2' := k14'.cell (i := 2) rfl
  have fy0' := k14'.frozen 0
  have fy1' := k14'.frozen 1
  have fy2' := k14'.frozen 2
  go_wp2_with fail
  clear hW
  clear m0 m1 m2 a0 a1 a2 a3 a4 a5 a6 o0 o1 o2 x0 x1 x2 fx0 fx1 fx2 y0 y1 y2 fy0 fy1 fy2
  clear m0' m1' m2' a0' a1' a2' a3' a4' a5' a6' o0' o1' o2' x0' x1' x2' fx0' fx1' fx2' y0' y1' y2' fy0' fy1' fy2'
  replace k5 := k5'
  clear k5'
  replace k6 := k6'
  clear k6'
  replace kx := kx'
  clear kx'
  replace k12 := k12'
  clear k12'
  replace k14 := k14'
  clear k14'
  have m0 := k5.cell (i := 0) rfl
  have m1 := k5.cell (i := 1) rfl
  have m2 := k5.cell (i := 2) rfl
  have a0 := k6.cell (i := 0) rfl
  have a1 := k6.cell (i := 1) rfl
  have a2 := k6.cell (i := 2) rfl
  have a3 := k6.cell (i := 3) rfl
  have a4 := k6.cell (i := 4) rfl
  have a5 := k6.cell (i := 5) rfl
  have a6 := k6.cell (i := 6) rfl
  have o0 := kx.cell (i := 0) rfl
  have o1 := kx.cell (i := 1) rfl
  have o2 := kx.cell (i := 2) rfl
  have x0 := k12.cell (i := 0) rfl
  have x1 := k12.cell (i := 1) rfl
  have x2 := k12.cell (i := 2) rfl
  have fx0 := k12.frozen 0
  have fx1 := k12.frozen 1
  have fx2 := k12.frozen 2
  have y0 := k14.cell (i := 0) rfl
  have y1 := k14.cell (i := 1) rfl
  have y2 := k14.cell (i := 2) rfl
  have fy0 := k14.frozen 0
  have fy1 := k14.frozen 1
  have fy2 := k14.frozen 2
  replace ro := ro.below (Nat.le_refl _) (below_of_grown hg rol (by intro k e; cases e; omega))
  replace rol := Nat.le_trans rol hg.size
  replace rowx := rowx'
  clear rowx'
  replace rowy := rowy'
  clear rowy'
  replace hB := hB.trans (below_of_grown hg hB.size (by intro k e; cases e; omega))
  clear hg
  have hlx := Lib.hid (row_max rowx)

  refine (Same_eq q2w q2h srowxa srowya srowxc srowyc q2px.length q2px (Lib.hid rfl) _ hlx.out (row_rd rowx) (row_rd rowy)).mono ?_
  rintro e V11 ⟨rfl, hb⟩
  clear m0 m1 m2 a0 a1 a2 a3 a4 a5 a6 o0 o1 o2 x0 x1 x2 fx0 fx1 fx2 y0 y1 y2 fy0 fy1 fy2
  replace k5 := k5.below hb k5.lt
  replace k6 := k6.below hb k6.lt
  replace kx := kx.below hb kx.lt
  replace k12 := k12.below hb k12.lt
  replace k14 := k14.below hb k14.lt
  replace ro := ro.below (Nat.le_refl _) (hb.mono rol)
  replace rol := Nat.le_trans rol hb.size
  replace rowx := row_below rowx hb
  replace rowy := row_below rowy hb
  replace hB := hB.trans (hb.mono hB.size)
  have m0 := k5.cell (i := 0) rfl
  have m1 := k5.cell (i := 1) rfl
  have m2 := k5.cell (i := 2) rfl
  have a0 := k6.cell (i := 0) rfl
  have a1 := k6.cell (i := 1) rfl
  have a2 := k6.cell (i := 2) rfl
  have a3 := k6.cell (i := 3) rfl
  have a4 := k6.cell (i := 4) rfl
  have a5 := k6.cell (i := 5) rfl
  have a6 := k6.cell (i := 6) rfl
  have o0 := kx.cell (i := 0) rfl
  have o1 := kx.cell (i := 1) rfl
  have o2 := kx.cell (i := 2) rfl
  have x0 := k12.cell (i := 0) rfl
  have x1 := k12.cell (i := 1) rfl
  have x2 := k12.cell (i := 2) rfl
  have fx0 := k12.frozen 0
  have fx1 := k12.frozen 1
  have fx2 := k12.frozen 2
  have y0 := k14.cell (i := 0) rfl
  have y1 := k14.cell (i := 1) rfl
  have y2 := k14.cell (i := 2) rfl
  have fy0 := k14.frozen 0
  have fy1 := k14.frozen 1
  have fy2 := k14.frozen 2
  clear hb
  clear rowy
  go_wp2_with fail
  refine (spoil_any q2w q2h srowxa srowxc q2px.length q2px bo _ hlx.out rol rowx).mono ?_
  rintro e V12 ⟨⟨v, rfl⟩, hg⟩
  have hlow := rowx.lt
  clear m0 m1 m2 a0 a1 a2 a3 a4 a5 a6 o0 o1 o2 x0 x1 x2 fx0 fx1 fx2 y0 y1 y2 fy0 fy1 fy2
  replace k5 := k5.kept hg (k5.not_row (by decide) rowx)
  replace k6 := k6.kept hg (k6.not_row (by decide) rowx)
  replace kx := kx.kept hg (kx.not_row (by decide) rowx)
  replace k12 := k12.kept hg (k12.not_row (by decide) rowx)
  replace k14 := k14.kept hg (k14.not_row (by decide) rowx)
  replace ro := ro.below (Nat.le_refl _) (below_of_grown hg rol (by (intro k e; have := (hlow k e).1; omega)))
  replace rol := Nat.le_trans rol hg.size
  replace hB := hB.trans (below_of_grown hg hB.size (by (intro k e; have := (hlow k e).1; omega)))
  clear hg hlow rowx
  have m0 := k5.cell (i := 0) rfl
  have m1 := k5.cell (i := 1) rfl
  have m2 := k5.cell (i := 2) rfl
  have a0 := k6.cell (i := 0) rfl
  have a1 := k6.cell (i := 1) rfl
  have a2 := k6.cell (i := 2) rfl
  have a3 := k6.cell (i := 3) rfl
  have a4 := k6.cell (i := 4) rfl
  have a5 := k6.cell (i := 5) rfl
  have a6 := k6.cell (i := 6) rfl
  have o0 := kx.cell (i := 0) rfl
  have o1 := kx.cell (i := 1) rfl
  have o2 := kx.cell (i := 2) rfl
  have x0 := k12.cell (i := 0) rfl
  have x1 := k12.cell (i := 1) rfl
  have x2 := k12.cell (i := 2) rfl
  have fx0 := k12.frozen 0
  have fx1 := k12.frozen 1
  have fx2 := k12.frozen 2
  have y0 := k14.cell (i := 0) rfl
  have y1 := k14.cell (i := 1) rfl
  have y2 := k14.cell (i := 2) rfl
  have fy0 := k14.frozen 0
  have fy1 := k14.frozen 1
  have fy2 := k14.frozen 2
  clear hlx
  go_wp2_with fail
  have hcall := Flip_any iw ih so co n xs hn _ (by omega) (ro.mono rol)
  rw [hR3.out] at hcall
  refine hcall.mono ?_
  clear hcall
  rintro e V13 ⟨⟨v, rfl, hv⟩, hb⟩
  obtain ⟨sl, rfl, hrow⟩ := hv
  obtain ⟨srowxa, srowxc, rfl⟩ := row_slice hrow
  have rowx := row_base hrow rol
  clear hrow
  clear m0 m1 m2 a0 a1 a2 a3 a4 a5 a6 o0 o1 o2 x0 x1 x2 fx0 fx1 fx2 y0 y1 y2 fy0 fy1 fy2
  replace k5 := k5.below hb k5.lt
  replace k6 := k6.below hb k6.lt
  replace kx := kx.below hb kx.lt
  replace k12 := k12.below hb k12.lt
  replace k14 := k14.below hb k14.lt
  replace ro := ro.below (Nat.le_refl _) (hb.mono rol)
  replace rol := Nat.le_trans rol hb.size
  replace hB := hB.trans (hb.mono hB.size)
  have m0 := k5.cell (i := 0) rfl
  have m1 := k5.cell (i := 1) rfl
  have m2 := k5.cell (i := 2) rfl
  have a0 := k6.cell (i := 0) rfl
  have a1 := k6.cell (i := 1) rfl
  have a2 := k6.cell (i := 2) rfl
  have a3 := k6.cell (i := 3) rfl
  have a4 := k6.cell (i := 4) rfl
  have a5 := k6.cell (i := 5) rfl
  have a6 := k6.cell (i := 6) rfl
  have o0 := kx.cell (i := 0) rfl
  have o1 := kx.cell (i := 1) rfl
  have o2 := kx.cell (i := 2) rfl
  have x0 := k12.cell (i := 0) rfl
  have x1 := k12.cell (i := 1) rfl
  have x2 := k12.cell (i := 2) rfl
  have fx0 := k12.frozen 0
  have fx1 := k12.frozen 1
  have fx2 := k12.frozen 2
  have y0 := k14.cell (i := 0) rfl
  have y1 := k14.cell (i := 1) rfl
  have y2 := k14.cell (i := 2) rfl
  have fy0 := k14.frozen 0
  have fy1 := k14.frozen 1
  have fy2 := k14.frozen 2
  clear hb
  obtain ⟨V14, hW⟩ : ∃ V14, put3 V13 bx (.int .i64 q3w) (.int .i64 q3h) (.slice srowxa q3px.length srowxc) = V14 := ⟨_, rfl⟩
  have hg : V13.grownBy V14 (some bx) := hW ▸ put3_grown _ _ _ _ _
  have k12' := put3_blk k12 (.int .i64 q3w) (.int .i64 q3h) (.slice srowxa q3px.length srowxc)
  rw [hW] at k12'
  have rowx' := put3_row rowx (k12.not_row (by decide) rowx) (.int .i64 q3w) (.int .i64 q3h) (.slice srowxa q3px.length srowxc)
  rw [hW] at rowx'
  have k5' := k5.kept hg (by simp <;> omega)
  have k6' := k6.kept hg (by simp <;> omega)
  have kx' := kx.kept hg (by simp <;> omega)
  have k14' := k14.kept hg (by simp <;> omega)
  have m0' := k5'.cell (i := 0) rfl
  have m1' := k5'.cell (i := 1) rfl
  have m2' := k5'.cell (i := 2) rfl
  have a0' := k6'.cell (i := 0) rfl
  have a1' := k6'.cell (i := 1) rfl
  have a2' := k6'.cell (i := 2) rfl
  have a3' := k6'.cell (i := 3) rfl
  have a4' := k6'.cell (i := 4) rfl
  have a5' := k6'.cell (i := 5) rfl
  have a6' := k6'.cell (i := 6) rfl
  have o0' := kx'.cell (i := 0) rfl
  have o1' := kx'.cell (i := 1) rfl
  have o2' := kx'.cell (i := 2) rfl
  have x0' := k12'.cell (i := 0) rfl
  have x1' := k12'.cell (i := 1) rfl
  have x2' := k12'.cell (i := 2) rfl
  have fx0' := k12'.frozen 0
  have fx1' := k12'.frozen 1
  have fx2' := k12'.frozen 2
  have y0' := k14'.cell (i := 0) rfl
  have y1' := k14'.cell (i := 1) rfl
  have y2' := k14'.cell (i := 2) rfl
  have fy0' := k14'.frozen 0
  have fy1' := k14'.frozen 1
  have fy2' := k14'.frozen 2
  go_wp2_with fail
  clear hW
  clear m0 m1 m2 a0 a1 a2 a3 a4 a5 a6 o0 o1 o2 x0 x1 x2 fx0 fx1 fx2 y0 y1 y2 fy0 fy1 fy2
  clear m0' m1' m2' a0' a1' a2' a3' a4' a5' a6' o0' o1' o2' x0' x1' x2' fx0' fx1' fx2' y0' y1' y2' fy0' fy1' fy2'
  replace k5 := k5'
  clear k5'
  replace k6 := k6'
  clear k6'
  replace kx := kx'
  clear kx'
  replace k12 := k12'
  clear k12'
  replace k14 := k14'
  clear k14'
  have m0 := k5.cell (i := 0) rfl
  have m1 := k5.cell (i := 1) rfl
  have m2 := k5.cell (i := 2) rfl
  have a0 := k6.cell (i := 0) rfl
  have a1 := k6.cell (i := 1) rfl
  have a2 := k6.cell (i := 2) rfl
  have a3 := k6.cell (i := 3) rfl
  have a4 := k6.cell (i := 4) rfl
  have a5 := k6.cell (i := 5) rfl
  have a6 := k6.cell (i := 6) rfl
  have o0 := kx.cell (i := 0) rfl
  have o1 := kx.cell (i := 1) rfl
  have o2 := kx.cell (i := 2) rfl
  have x0 := k12.cell (i := 0) rfl
  have x1 := k12.cell (i := 1) rfl
  have x2 := k12.cell (i := 2) rfl
  have fx0 := k12.frozen 0
  have fx1 := k12.frozen 1
  have fx2 := k12.frozen 2
  have y0 := k14.cell (i := 0) rfl
  have y1 := k14.cell (i := 1) rfl
  have y2 := k14.cell (i := 2) rfl
  have fy0 := k14.frozen 0
  have fy1 := k14.frozen 1
  have fy2 := k14.frozen 2
  replace ro := ro.below (Nat.le_refl _) (below_of_grown hg rol (by intro k e; cases e; omega))
  replace rol := Nat.le_trans rol hg.size
  replace rowx := rowx'
  clear rowx'
  replace hB := hB.trans (below_of_grown hg hB.size (by intro k e; cases e; omega))
  clear hg

  have hcall := rFlip_any iw ih a c n xs hn _ (by omega) ((hr.below (Nat.le_refl _) hB).mono hB.size)
  rw [hR3.out] at hcall
  refine hcall.mono ?_
  clear hcall
  rintro e V15 ⟨⟨v, rfl, hv⟩, hb⟩
  obtain ⟨sl, rfl, hrow⟩ := hv
  obtain ⟨srowya, srowyc, rfl⟩ := row_slice hrow
  have rowy := row_base hrow rol
  clear hrow
  clear m0 m1 m2 a0 a1 a2 a3 a4 a5 a6 o0 o1 o2 x0 x1 x2 fx0 fx1 fx2 y0 y1 y2 fy0 fy1 fy2
  replace k5 := k5.below hb k5.lt
  replace k6 := k6.below hb k6.lt
  replace kx := kx.below hb kx.lt
  replace k12 := k12.below hb k12.lt
  replace k14 := k14.below hb k14.lt
  replace ro := ro.below (Nat.le_refl _) (hb.mono rol)
  replace rol := Nat.le_trans rol hb.size
  replace rowx := row_below rowx hb
  replace hB := hB.trans (hb.mono hB.size)
  have m0 := k5.cell (i := 0) rfl
  have m1 := k5.cell (i := 1) rfl
  have m2 := k5.cell (i := 2) rfl
  have a0 := k6.cell (i := 0) rfl
  have a1 := k6.cell (i := 1) rfl
  have a2 := k6.cell (i := 2) rfl
  have a3 := k6.cell (i := 3) rfl
  have a4 := k6.cell (i := 4) rfl
  have a5 := k6.cell (i := 5) rfl
  have a6 := k6.cell (i := 6) rfl
  have o0 := kx.cell (i := 0) rfl
  have o1 := kx.cell (i := 1) rfl
  have o2 := kx.cell (i := 2) rfl
  have x0 := k12.cell (i := 0) rfl
  have x1 := k12.cell (i := 1) rfl
  have x2 := k12.cell (i := 2) rfl
  have fx0 := k12.frozen 0
  have fx1 := k12.frozen 1
  have fx2 := k12.frozen 2
  have y0 := k14.cell (i := 0) rfl
  have y1 := k14.cell (i := 1) rfl
  have y2 := k14.cell (i := 2) rfl
  have fy0 := k14.frozen 0
  have fy1 := k14.frozen 1
  have fy2 := k14.frozen 2
  clear hb
  obtain ⟨V16, hW⟩ : ∃ V16, put3 V15 byy (.int .i64 q3w) (.int .i64 q3h) (.slice srowya q3px.length srowyc) = V16 := ⟨_, rfl⟩
  have hg : V15.grownBy V16 (some byy) := hW ▸ put3_grown _ _ _ _ _
  have k14' := put3_blk k14 (.int .i64 q3w) (.int .i64 q3h) (.slice srowya q3px.length srowyc)
  rw [hW] at k14'
  have rowx' := put3_row rowx (k14.not_row (by decide) rowx) (.int .i64 q3w) (.int .i64 q3h) (.slice srowya q3px.length srowyc)
  rw [hW] at rowx'
  have rowy' := put3_row rowy (k14.not_row (by decide) rowy) (.int .i64 q3w) (.int .i64 q3h) (.slice srowya q3px.length srowyc)
  rw [hW] at rowy'
  have k5' := k5.kept hg (by simp <;> omega)
  have k6' := k6.kept hg (by simp <;> omega)
  have kx' := kx.kept hg (by simp <;> omega)
  have k12' := k12.kept hg (by simp <;> omega)
  have m0' := k5'.cell (i := 0) rfl
  have m1' := k5'.cell (i := 1) rfl
  have m2' := k5'.cell (i := 2) rfl
  have a0' := k6'.cell (i := 0) rfl
  have a1' := k6'.cell (i := 1) rfl
  have a2' := k6'.cell (i := 2) rfl
  have a3' := k6'.cell (i := 3) rfl
  have a4' := k6'.cell (i := 4) rfl
  have a5' := k6'.cell (i := 5) rfl
  have a6' := k6'.cell (i := 6) rfl
  have o0' := kx'.cell (i := 0) rfl
  have o1' := kx'.cell (i := 1) rfl
  have o2' := kx'.cell (i := 2) rfl
  have x0' := k12'.cell (i := 0) rfl
  have x1' := k12'.cell (i := 1) rfl
  have x2' := k12'.cell (i := 2) rfl
  have fx0' := k12'.frozen 0
  have fx1' := k12'.frozen 1
  have fx2' := k12'.frozen 2
  have y0' := k14'.cell (i := 0) rfl
  have y1' := k14'.cell (i := 1) rfl
  have y2' := k14'.cell (i := 2) rfl
  have fy0' := k14'.frozen 0
  have fy1' := k14'.frozen 1
  have fy2' := k14'.frozen 2
  go_wp2_with fail
  clear hW
  clear m0 m1 m2 a0 a1 a2 a3 a4 a5 a6 o0 o1 o2 x0 x1 x2 fx0 fx1 fx2 y0 y1 y2 fy0 fy1 fy2
  clear m0' m1' m2' a0' a1' a2' a3' a4' a5' a6' o0' o1' o2' x0' x1' x2' fx0' fx1' fx2' y0' y1' y2' fy0' fy1' fy2'
  replace k5 := k5'
  clear k5'
  replace k6 := k6'
  clear k6'
  replace kx := kx'
  clear kx'
  replace k12 := k12'
  clear k12'
  replace k14 := k14'
  clear k14'
  have m0 := k5.cell (i := 0) rfl
  have m1 := k5.cell (i := 1) rfl
  have m2 := k5.cell (i := 2) rfl
  have a0 := k6.cell (i := 0) rfl
  have a1 := k6.cell (i := 1) rfl
  have a2 := k6.cell (i := 2) rfl
  have a3 := k6.cell (i := 3) rfl
  have a4 := k6.cell (i := 4) rfl
  have a5 := k6.cell (i := 5) rfl
  have a6 := k6.cell (i := 6) rfl
  have o0 := kx.cell (i := 0) rfl
  have o1 := kx.cell (i := 1) rfl
  have o2 := kx.cell (i := 2) rfl
  have x0 := k12.cell (i := 0) rfl
  have x1 := k12.cell (i := 1) rfl
  have x2 := k12.cell (i := 2) rfl
  have fx0 := k12.frozen 0
  have fx1 := k12.frozen 1
  have fx2 := k12.frozen 2
  have y0 := k14.cell (i := 0) rfl
  have y1 := k14.cell (i := 1) rfl
  have y2 := k14.cell (i := 2) rfl
  have fy0 := k14.frozen 0
  have fy1 := k14.frozen 1
  have fy2 := k14.frozen 2
  replace ro := ro.below (Nat.le_refl _) (below_of_grown hg rol (by intro k e; cases e; omega))
  replace rol := Nat.le_trans rol hg.size
  replace rowx := rowx'
  clear rowx'
  replace rowy := rowy'
  clear rowy'
  replace hB := hB.trans (below_of_grown hg hB.size (by intro k e; cases e; omega))
  clear hg
  have hlx := Lib.hid (row_max rowx)

  refine (Same_eq q3w q3h srowxa srowya srowxc srowyc q3px.length q3px (Lib.hid rfl) _ hlx.out (row_rd rowx) (row_rd rowy)).mono ?_
  rintro e V17 ⟨rfl, hb⟩
  clear m0 m1 m2 a0 a1 a2 a3 a4 a5 a6 o0 o1 o2 x0 x1 x2 fx0 fx1 fx2 y0 y1 y2 fy0 fy1 fy2
  replace k5 := k5.below hb k5.lt
  replace k6 := k6.below hb k6.lt
  replace kx := kx.below hb kx.lt
  replace k12 := k12.below hb k12.lt
  replace k14 := k14.below hb k14.lt
  replace ro := ro.below (Nat.le_refl _) (hb.mono rol)
  replace rol := Nat.le_trans rol hb.size
  replace rowx := row_below rowx hb
  replace rowy := row_below rowy hb
  replace hB := hB.trans (hb.mono hB.size)
  have m0 := k5.cell (i := 0) rfl
  have m1 := k5.cell (i := 1) rfl
  have m2 := k5.cell (i := 2) rfl
  have a0 := k6.cell (i := 0) rfl
  have a1 := k6.cell (i := 1) rfl
  have a2 := k6.cell (i := 2) rfl
  have a3 := k6.cell (i := 3) rfl
  have a4 := k6.cell (i := 4) rfl
  have a5 := k6.cell (i := 5) rfl
  have a6 := k6.cell (i := 6) rfl
  have o0 := kx.cell (i := 0) rfl
  have o1 := kx.cell (i := 1) rfl
  have o2 := kx.cell (i := 2) rfl
  have x0 := k12.cell (i := 0) rfl
  have x1 := k12.cell (i := 1) rfl
  have x2 := k12.cell (i := 2) rfl
  have fx0 := k12.frozen 0
  have fx1 := k12.frozen 1
  have fx2 := k12.frozen 2
  have y0 := k14.cell (i := 0) rfl
  have y1 := k14.cell (i := 1) rfl
  have y2 := k14.cell (i := 2) rfl
  have fy0 := k14.frozen 0
  have fy1 := k14.frozen 1
  have fy2 := k14.frozen 2
  clear hb
  clear rowy
  go_wp2_with fail
  refine (spoil_any q3w q3h srowxa srowxc q3px.length q3px bo _ hlx.out rol rowx).mono ?_
  rintro e V18 ⟨⟨v, rfl⟩, hg⟩
  have hlow := rowx.lt
  clear m0 m1 m2 a0 a1 a2 a3 a4 a5 a6 o0 o1 o2 x0 x1 x2 fx0 fx1 fx2 y0 y1 y2 fy0 fy1 fy2
  replace k5 := k5.kept hg (k5.not_row (by decide) rowx)
  replace k6 := k6.kept hg (k6.not_row (by decide) rowx)
  replace kx := kx.kept hg (kx.not_row (by decide) rowx)
  replace k12 := k12.kept hg (k12.not_row (by decide) rowx)
  replace k14 := k14.kept hg (k14.not_row (by decide) rowx)
  replace ro := ro.below (Nat.le_refl _) (below_of_grown hg rol (by (intro k e; have := (hlow k e).1; omega)))
  replace rol := Nat.le_trans rol hg.size
  replace hB := hB.trans (below_of_grown hg hB.size (by (intro k e; have := (hlow k e).1; omega)))
  clear hg hlow rowx
  have m0 := k5.cell (i := 0) rfl
  have m1 := k5.cell (i := 1) rfl
  have m2 := k5.cell (i := 2) rfl
  have a0 := k6.cell (i := 0) rfl
  have a1 := k6.cell (i := 1) rfl
  have a2 := k6.cell (i := 2) rfl
  have a3 := k6.cell (i := 3) rfl
  have a4 := k6.cell (i := 4) rfl
  have a5 := k6.cell (i := 5) rfl
  have a6 := k6.cell (i := 6) rfl
  have o0 := kx.cell (i := 0) rfl
  have o1 := kx.cell (i := 1) rfl
  have o2 := kx.cell (i := 2) rfl
  have x0 := k12.cell (i := 0) rfl
  have x1 := k12.cell (i := 1) rfl
  have x2 := k12.cell (i := 2) rfl
  have fx0 := k12.frozen 0
  have fx1 := k12.frozen 1
  have fx2 := k12.frozen 2
  have y0 := k14.cell (i := 0) rfl
  have y1 := k14.cell (i := 1) rfl
  have y2 := k14.cell (i := 2) rfl
  have fy0 := k14.frozen 0
  have fy1 := k14.frozen 1
  have fy2 := k14.frozen 2
  clear hlx
  go_wp2_with fail
  refine (Same_eq iw ih so a co c n xs hn _ (by omega) (ro.mono rol) ((hr.below (Nat.le_refl _) hB).mono hB.size)).mono ?_
  rintro e Ve ⟨rfl, hb⟩
  go_wp2_with fail
  go_ret
  exact ⟨rfl, hB.trans (hb.mono hB.size)⟩

end Go.Proofs.Ytjglfeonoiljlaa
