/- The walk of the law ImageAdjoint: it returns true, and nothing that lay has turned. -/
import Derived.Test.YtjglfeonoiljlaaAdj
import Derived.Test.YtjglfeonoiljlaaAlive
namespace Go.Proofs.Ytjglfeonoiljlaa
open Go Go.RowKit Go.Shelf
set_option linter.unusedVariables false
set_option linter.unusedSimpArgs false

set_option maxRecDepth 100000 in
set_option maxHeartbeats 8000000 in
theorem law_adjoint (iw ih : Int) (a : Option Addr) (c n : Nat) (xs : List Int) (hn : Hid (xs.length = n)) (jw jh : Int) (a' : Option Addr) (c' m : Nat) (ys : List Int) (hn' : Hid (ys.length = m)) (sw sh : Int) (as' : Option Addr) (cs ns : Nat) (bits : List Bool) (hbn : Hid (bits.length = ns)) (w : World)
    (hm : n ≤ 9223372036854775807) (hr : Rd w.heap.size w a xs) (hm' : m ≤ 9223372036854775807) (hr' : Rd w.heap.size w a' ys) (hms : ns ≤ 9223372036854775807) (hrs : RdB w.heap.size w as' bits) :
    Calls Try.prog 13 #[imv iw ih a n c, imv jw jh a' m c', imv sw sh as' ns cs] w fun e w' => e = .returned (.bool true) ∧ Below w.heap.size w w' := by
  obtain ⟨⟨q1w, q1h, q1px, q1e⟩, hR⟩ : ∃ r, morS true iw ih xs sw sh bits = r := ⟨_, rfl⟩
  have hR1 := Lib.hid hR
  clear hR
  obtain ⟨⟨q2w, q2h, q2px, q2e⟩, hR⟩ : ∃ r, morS false jw jh ys sw sh bits = r := ⟨_, rfl⟩
  have hR2 := Lib.hid hR
  clear hR
  obtain ⟨zv, hzv0⟩ : ∃ v, sizedB iw ih xs jw jh ys = v := ⟨_, rfl⟩
  have hzv := Lib.hid hzv0
  obtain ⟨sv, hsv0⟩ : ∃ v, shapeOk sw sh bits = v := ⟨_, rfl⟩
  have hsv := Lib.hid hsv0
  clear hzv0 hsv0
  cases zv with
  | false =>
    have hB : Below w.heap.size w (((w.alloc (.cells #[.int .i64 iw, .int .i64 ih, .slice a n c] 24)).alloc (.cells #[.int .i64 jw, .int .i64 jh, .slice a' m c'] 24)).alloc (.cells #[.int .i64 sw, .int .i64 sh, .slice as' ns cs] 40)) := below_al (below_al (below_al (Below.refl _ _) _) _) _
    have ka := ((Blk.new w 24 #[.int .i64 iw, .int .i64 ih, .slice a n c]).alloc (.cells #[.int .i64 jw, .int .i64 jh, .slice a' m c'] 24)).alloc (.cells #[.int .i64 sw, .int .i64 sh, .slice as' ns cs] 40)
    have kb := (Blk.new (w.alloc (.cells #[.int .i64 iw, .int .i64 ih, .slice a n c] 24)) 24 #[.int .i64 jw, .int .i64 jh, .slice a' m c']).alloc (.cells #[.int .i64 sw, .int .i64 sh, .slice as' ns cs] 40)
    have ks := Blk.new ((w.alloc (.cells #[.int .i64 iw, .int .i64 ih, .slice a n c] 24)).alloc (.cells #[.int .i64 jw, .int .i64 jh, .slice a' m c'] 24)) 40 #[.int .i64 sw, .int .i64 sh, .slice as' ns cs]
    simp only [World.size_alloc] at kb ks
    obtain ⟨W0, hW⟩ : ∃ W, ((w.alloc (.cells #[.int .i64 iw, .int .i64 ih, .slice a n c] 24)).alloc (.cells #[.int .i64 jw, .int .i64 jh, .slice a' m c'] 24)).alloc (.cells #[.int .i64 sw, .int .i64 sh, .slice as' ns cs] 40) = W := ⟨_, rfl⟩
    rw [hW] at hB ka kb ks
    have m0 := ka.cell (i := 0) rfl
    have m1 := ka.cell (i := 1) rfl
    have m2 := ka.cell (i := 2) rfl
    have s0 := kb.cell (i := 0) rfl
    have s1 := kb.cell (i := 1) rfl
    have s2 := kb.cell (i := 2) rfl
    have t0 := ks.cell (i := 0) rfl
    have t1 := ks.cell (i := 1) rfl
    have t2 := ks.cell (i := 2) rfl
    go_enter Try.func13, Try.ntmps13
    go_wp2_with fail
    clear hW
    refine (alive_any _).mono ?_
    rintro e V0 ⟨rfl, hb⟩
    clear m0 m1 m2 s0 s1 s2 t0 t1 t2
    replace ka := ka.below hb ka.lt
    replace kb := kb.below hb kb.lt
    replace ks := ks.below hb ks.lt
    replace hB := hB.trans (hb.mono hB.size)
    have m0 := ka.cell (i := 0) rfl
    have m1 := ka.cell (i := 1) rfl
    have m2 := ka.cell (i := 2) rfl
    have s0 := kb.cell (i := 0) rfl
    have s1 := kb.cell (i := 1) rfl
    have s2 := kb.cell (i := 2) rfl
    have t0 := ks.cell (i := 0) rfl
    have t1 := ks.cell (i := 1) rfl
    have t2 := ks.cell (i := 2) rfl
    clear hb
    go_wp2_with fail
    have hcall := Dilate_any iw ih a c n xs hn sw sh as' cs ns bits hbn _ (by omega) ((hr.below (Nat.le_refl _) hB).mono hB.size) (by omega) ((hrs.below (Nat.le_refl _) hB).mono hB.size)
    rw [hR1.out] at hcall
    refine hcall.mono ?_
    clear hcall
    rintro e V1 ⟨⟨v, rfl, hv⟩, hb⟩
    obtain ⟨sl, rfl, hrow⟩ := hv
    obtain ⟨srowxa, srowxc, rfl⟩ := row_slice hrow
    have rowx := row_base hrow hB.size
    clear hrow
    clear m0 m1 m2 s0 s1 s2 t0 t1 t2
    replace ka := ka.below hb ka.lt
    replace kb := kb.below hb kb.lt
    replace ks := ks.below hb ks.lt
    replace hB := hB.trans (hb.mono hB.size)
    have m0 := ka.cell (i := 0) rfl
    have m1 := ka.cell (i := 1) rfl
    have m2 := ka.cell (i := 2) rfl
    have s0 := kb.cell (i := 0) rfl
    have s1 := kb.cell (i := 1) rfl
    have s2 := kb.cell (i := 2) rfl
    have t0 := ks.cell (i := 0) rfl
    have t1 := ks.cell (i := 1) rfl
    have t2 := ks.cell (i := 2) rfl
    clear hb
    obtain ⟨V2, hW⟩ : ∃ V2, V1.alloc (.cells #[.int .i64 q1w, .int .i64 q1h, .slice srowxa q1px.length srowxc] 24) = V2 := ⟨_, rfl⟩
    obtain ⟨bx, hbx⟩ : ∃ bx, V1.heap.size = bx := ⟨_, rfl⟩
    have kx := Blk.new V1 24 #[.int .i64 q1w, .int .i64 q1h, .slice srowxa q1px.length srowxc]
    rw [hW, hbx] at kx
    have hb : Below V1.heap.size V1 V2 := alloc_below hW
    have ka' := ka.below hb ka.lt
    have lkakx := ka.lt
    rw [hbx] at lkakx
    have kb' := kb.below hb kb.lt
    have lkbkx := kb.lt
    rw [hbx] at lkbkx
    have ks' := ks.below hb ks.lt
    have lkskx := ks.lt
    rw [hbx] at lkskx
    have m0' := ka'.cell (i := 0) rfl
    have m1' := ka'.cell (i := 1) rfl
    have m2' := ka'.cell (i := 2) rfl
    have s0' := kb'.cell (i := 0) rfl
    have s1' := kb'.cell (i := 1) rfl
    have s2' := kb'.cell (i := 2) rfl
    have t0' := ks'.cell (i := 0) rfl
    have t1' := ks'.cell (i := 1) rfl
    have t2' := ks'.cell (i := 2) rfl
    have x0 := kx.cell (i := 0) rfl
    have x1 := kx.cell (i := 1) rfl
    have x2 := kx.cell (i := 2) rfl
    have fx0 := kx.frozen 0
    have fx1 := kx.frozen 1
    have fx2 := kx.frozen 2
    go_wp2_with fail
    clear hW
    clear hbx
    clear m0 m1 m2 s0 s1 s2 t0 t1 t2
    clear m0' m1' m2' s0' s1' s2' t0' t1' t2'
    replace ka := ka'
    clear ka'
    replace kb := kb'
    clear kb'
    replace ks := ks'
    clear ks'
    have m0 := ka.cell (i := 0) rfl
    have m1 := ka.cell (i := 1) rfl
    have m2 := ka.cell (i := 2) rfl
    have s0 := kb.cell (i := 0) rfl
    have s1 := kb.cell (i := 1) rfl
    have s2 := kb.cell (i := 2) rfl
    have t0 := ks.cell (i := 0) rfl
    have t1 := ks.cell (i := 1) rfl
    have t2 := ks.cell (i := 2) rfl
    replace rowx := row_below rowx hb
    replace hB := hB.trans (hb.mono hB.size)
    clear hb

    have hcall := Erode_any jw jh a' c' m ys hn' sw sh as' cs ns bits hbn _ (by omega) ((hr'.below (Nat.le_refl _) hB).mono hB.size) (by omega) ((hrs.below (Nat.le_refl _) hB).mono hB.size)
    rw [hR2.out] at hcall
    refine hcall.mono ?_
    clear hcall
    rintro e V3 ⟨⟨v, rfl, hv⟩, hb⟩
    obtain ⟨sl, rfl, hrow⟩ := hv
    obtain ⟨srowya, srowyc, rfl⟩ := row_slice hrow
    have rowy := row_base hrow hB.size
    clear hrow
    clear m0 m1 m2 s0 s1 s2 t0 t1 t2 x0 x1 x2 fx0 fx1 fx2
    replace ka := ka.below hb ka.lt
    replace kb := kb.below hb kb.lt
    replace ks := ks.below hb ks.lt
    replace kx := kx.below hb kx.lt
    replace rowx := row_below rowx hb
    replace hB := hB.trans (hb.mono hB.size)
    have m0 := ka.cell (i := 0) rfl
    have m1 := ka.cell (i := 1) rfl
    have m2 := ka.cell (i := 2) rfl
    have s0 := kb.cell (i := 0) rfl
    have s1 := kb.cell (i := 1) rfl
    have s2 := kb.cell (i := 2) rfl
    have t0 := ks.cell (i := 0) rfl
    have t1 := ks.cell (i := 1) rfl
    have t2 := ks.cell (i := 2) rfl
    have x0 := kx.cell (i := 0) rfl
    have x1 := kx.cell (i := 1) rfl
    have x2 := kx.cell (i := 2) rfl
    have fx0 := kx.frozen 0
    have fx1 := kx.frozen 1
    have fx2 := kx.frozen 2
    clear hb
    obtain ⟨V4, hW⟩ : ∃ V4, V3.alloc (.cells #[.int .i64 q2w, .int .i64 q2h, .slice srowya q2px.length srowyc] 24) = V4 := ⟨_, rfl⟩
    obtain ⟨byy, hbx⟩ : ∃ byy, V3.heap.size = byy := ⟨_, rfl⟩
    have ky := Blk.new V3 24 #[.int .i64 q2w, .int .i64 q2h, .slice srowya q2px.length srowyc]
    rw [hW, hbx] at ky
    have hb : Below V3.heap.size V3 V4 := alloc_below hW
    have ka' := ka.below hb ka.lt
    have lkaky := ka.lt
    rw [hbx] at lkaky
    have kb' := kb.below hb kb.lt
    have lkbky := kb.lt
    rw [hbx] at lkbky
    have ks' := ks.below hb ks.lt
    have lksky := ks.lt
    rw [hbx] at lksky
    have kx' := kx.below hb kx.lt
    have lkxky := kx.lt
    rw [hbx] at lkxky
    have m0' := ka'.cell (i := 0) rfl
    have m1' := ka'.cell (i := 1) rfl
    have m2' := ka'.cell (i := 2) rfl
    have s0' := kb'.cell (i := 0) rfl
    have s1' := kb'.cell (i := 1) rfl
    have s2' := kb'.cell (i := 2) rfl
    have t0' := ks'.cell (i := 0) rfl
    have t1' := ks'.cell (i := 1) rfl
    have t2' := ks'.cell (i := 2) rfl
    have x0' := kx'.cell (i := 0) rfl
    have x1' := kx'.cell (i := 1) rfl
    have x2' := kx'.cell (i := 2) rfl
    have fx0' := kx'.frozen 0
    have fx1' := kx'.frozen 1
    have fx2' := kx'.frozen 2
    have y0 := ky.cell (i := 0) rfl
    have y1 := ky.cell (i := 1) rfl
    have y2 := ky.cell (i := 2) rfl
    have fy0 := ky.frozen 0
    have fy1 := ky.frozen 1
    have fy2 := ky.frozen 2
    go_wp2_with fail
    clear hW
    clear hbx
    clear m0 m1 m2 s0 s1 s2 t0 t1 t2 x0 x1 x2 fx0 fx1 fx2
    clear m0' m1' m2' s0' s1' s2' t0' t1' t2' x0' x1' x2' fx0' fx1' fx2'
    replace ka := ka'
    clear ka'
    replace kb := kb'
    clear kb'
    replace ks := ks'
    clear ks'
    replace kx := kx'
    clear kx'
    have m0 := ka.cell (i := 0) rfl
    have m1 := ka.cell (i := 1) rfl
    have m2 := ka.cell (i := 2) rfl
    have s0 := kb.cell (i := 0) rfl
    have s1 := kb.cell (i := 1) rfl
    have s2 := kb.cell (i := 2) rfl
    have t0 := ks.cell (i := 0) rfl
    have t1 := ks.cell (i := 1) rfl
    have t2 := ks.cell (i := 2) rfl
    have x0 := kx.cell (i := 0) rfl
    have x1 := kx.cell (i := 1) rfl
    have x2 := kx.cell (i := 2) rfl
    have fx0 := kx.frozen 0
    have fx1 := kx.frozen 1
    have fx2 := kx.frozen 2
    replace rowx := row_below rowx hb
    replace rowy := row_below rowy hb
    replace hB := hB.trans (hb.mono hB.size)
    clear hb
    refine (sized_any iw ih a c n xs hn jw jh a' c' m ys hn' _ hzv _ (by omega) ((hr.below (Nat.le_refl _) hB).mono hB.size) (by omega) ((hr'.below (Nat.le_refl _) hB).mono hB.size)).mono ?_
    rintro e V9 ⟨rfl, hb⟩
    clear m0 m1 m2 s0 s1 s2 t0 t1 t2 x0 x1 x2 fx0 fx1 fx2 y0 y1 y2 fy0 fy1 fy2
    replace ka := ka.below hb ka.lt
    replace kb := kb.below hb kb.lt
    replace ks := ks.below hb ks.lt
    replace kx := kx.below hb kx.lt
    replace ky := ky.below hb ky.lt
    replace rowx := row_below rowx hb
    replace rowy := row_below rowy hb
    replace hB := hB.trans (hb.mono hB.size)
    have m0 := ka.cell (i := 0) rfl
    have m1 := ka.cell (i := 1) rfl
    have m2 := ka.cell (i := 2) rfl
    have s0 := kb.cell (i := 0) rfl
    have s1 := kb.cell (i := 1) rfl
    have s2 := kb.cell (i := 2) rfl
    have t0 := ks.cell (i := 0) rfl
    have t1 := ks.cell (i := 1) rfl
    have t2 := ks.cell (i := 2) rfl
    have x0 := kx.cell (i := 0) rfl
    have x1 := kx.cell (i := 1) rfl
    have x2 := kx.cell (i := 2) rfl
    have fx0 := kx.frozen 0
    have fx1 := kx.frozen 1
    have fx2 := kx.frozen 2
    have y0 := ky.cell (i := 0) rfl
    have y1 := ky.cell (i := 1) rfl
    have y2 := ky.cell (i := 2) rfl
    have fy0 := ky.frozen 0
    have fy1 := ky.frozen 1
    have fy2 := ky.frozen 2
    clear hb
    go_wp2_with fail
    go_ret
    exact ⟨rfl, hB⟩
  | true =>
    cases sv with
    | false =>
      have hB : Below w.heap.size w (((w.alloc (.cells #[.int .i64 iw, .int .i64 ih, .slice a n c] 24)).alloc (.cells #[.int .i64 jw, .int .i64 jh, .slice a' m c'] 24)).alloc (.cells #[.int .i64 sw, .int .i64 sh, .slice as' ns cs] 40)) := below_al (below_al (below_al (Below.refl _ _) _) _) _
      have ka := ((Blk.new w 24 #[.int .i64 iw, .int .i64 ih, .slice a n c]).alloc (.cells #[.int .i64 jw, .int .i64 jh, .slice a' m c'] 24)).alloc (.cells #[.int .i64 sw, .int .i64 sh, .slice as' ns cs] 40)
      have kb := (Blk.new (w.alloc (.cells #[.int .i64 iw, .int .i64 ih, .slice a n c] 24)) 24 #[.int .i64 jw, .int .i64 jh, .slice a' m c']).alloc (.cells #[.int .i64 sw, .int .i64 sh, .slice as' ns cs] 40)
      have ks := Blk.new ((w.alloc (.cells #[.int .i64 iw, .int .i64 ih, .slice a n c] 24)).alloc (.cells #[.int .i64 jw, .int .i64 jh, .slice a' m c'] 24)) 40 #[.int .i64 sw, .int .i64 sh, .slice as' ns cs]
      simp only [World.size_alloc] at kb ks
      obtain ⟨W0, hW⟩ : ∃ W, ((w.alloc (.cells #[.int .i64 iw, .int .i64 ih, .slice a n c] 24)).alloc (.cells #[.int .i64 jw, .int .i64 jh, .slice a' m c'] 24)).alloc (.cells #[.int .i64 sw, .int .i64 sh, .slice as' ns cs] 40) = W := ⟨_, rfl⟩
      rw [hW] at hB ka kb ks
      have m0 := ka.cell (i := 0) rfl
      have m1 := ka.cell (i := 1) rfl
      have m2 := ka.cell (i := 2) rfl
      have s0 := kb.cell (i := 0) rfl
      have s1 := kb.cell (i := 1) rfl
      have s2 := kb.cell (i := 2) rfl
      have t0 := ks.cell (i := 0) rfl
      have t1 := ks.cell (i := 1) rfl
      have t2 := ks.cell (i := 2) rfl
      go_enter Try.func13, Try.ntmps13
      go_wp2_with fail
      clear hW
      refine (alive_any _).mono ?_
      rintro e V0 ⟨rfl, hb⟩
      clear m0 m1 m2 s0 s1 s2 t0 t1 t2
      replace ka := ka.below hb ka.lt
      replace kb := kb.below hb kb.lt
      replace ks := ks.below hb ks.lt
      replace hB := hB.trans (hb.mono hB.size)
      have m0 := ka.cell (i := 0) rfl
      have m1 := ka.cell (i := 1) rfl
      have m2 := ka.cell (i := 2) rfl
      have s0 := kb.cell (i := 0) rfl
      have s1 := kb.cell (i := 1) rfl
      have s2 := kb.cell (i := 2) rfl
      have t0 := ks.cell (i := 0) rfl
      have t1 := ks.cell (i := 1) rfl
      have t2 := ks.cell (i := 2) rfl
      clear hb
      go_wp2_with fail
      have hcall := Dilate_any iw ih a c n xs hn sw sh as' cs ns bits hbn _ (by omega) ((hr.below (Nat.le_refl _) hB).mono hB.size) (by omega) ((hrs.below (Nat.le_refl _) hB).mono hB.size)
      rw [hR1.out] at hcall
      refine hcall.mono ?_
      clear hcall
      rintro e V1 ⟨⟨v, rfl, hv⟩, hb⟩
      obtain ⟨sl, rfl, hrow⟩ := hv
      obtain ⟨srowxa, srowxc, rfl⟩ := row_slice hrow
      have rowx := row_base hrow hB.size
      clear hrow
      clear m0 m1 m2 s0 s1 s2 t0 t1 t2
      replace ka := ka.below hb ka.lt
      replace kb := kb.below hb kb.lt
      replace ks := ks.below hb ks.lt
      replace hB := hB.trans (hb.mono hB.size)
      have m0 := ka.cell (i := 0) rfl
      have m1 := ka.cell (i := 1) rfl
      have m2 := ka.cell (i := 2) rfl
      have s0 := kb.cell (i := 0) rfl
      have s1 := kb.cell (i := 1) rfl
      have s2 := kb.cell (i := 2) rfl
      have t0 := ks.cell (i := 0) rfl
      have t1 := ks.cell (i := 1) rfl
      have t2 := ks.cell (i := 2) rfl
      clear hb
      obtain ⟨V2, hW⟩ : ∃ V2, V1.alloc (.cells #[.int .i64 q1w, .int .i64 q1h, .slice srowxa q1px.length srowxc] 24) = V2 := ⟨_, rfl⟩
      obtain ⟨bx, hbx⟩ : ∃ bx, V1.heap.size = bx := ⟨_, rfl⟩
      have kx := Blk.new V1 24 #[.int .i64 q1w, .int .i64 q1h, .slice srowxa q1px.length srowxc]
      rw [hW, hbx] at kx
      have hb : Below V1.heap.size V1 V2 := alloc_below hW
      have ka' := ka.below hb ka.lt
      have lkakx := ka.lt
      rw [hbx] at lkakx
      have kb' := kb.below hb kb.lt
      have lkbkx := kb.lt
      rw [hbx] at lkbkx
      have ks' := ks.below hb ks.lt
      have lkskx := ks.lt
      rw [hbx] at lkskx
      have m0' := ka'.cell (i := 0) rfl
      have m1' := ka'.cell (i := 1) rfl
      have m2' := ka'.cell (i := 2) rfl
      have s0' := kb'.cell (i := 0) rfl
      have s1' := kb'.cell (i := 1) rfl
      have s2' := kb'.cell (i := 2) rfl
      have t0' := ks'.cell (i := 0) rfl
      have t1' := ks'.cell (i := 1) rfl
      have t2' := ks'.cell (i := 2) rfl
      have x0 := kx.cell (i := 0) rfl
      have x1 := kx.cell (i := 1) rfl
      have x2 := kx.cell (i := 2) rfl
      have fx0 := kx.frozen 0
      have fx1 := kx.frozen 1
      have fx2 := kx.frozen 2
      go_wp2_with fail
      clear hW
      clear hbx
      clear m0 m1 m2 s0 s1 s2 t0 t1 t2
      clear m0' m1' m2' s0' s1' s2' t0' t1' t2'
      replace ka := ka'
      clear ka'
      replace kb := kb'
      clear kb'
      replace ks := ks'
      clear ks'
      have m0 := ka.cell (i := 0) rfl
      have m1 := ka.cell (i := 1) rfl
      have m2 := ka.cell (i := 2) rfl
      have s0 := kb.cell (i := 0) rfl
      have s1 := kb.cell (i := 1) rfl
      have s2 := kb.cell (i := 2) rfl
      have t0 := ks.cell (i := 0) rfl
      have t1 := ks.cell (i := 1) rfl
      have t2 := ks.cell (i := 2) rfl
      replace rowx := row_below rowx hb
      replace hB := hB.trans (hb.mono hB.size)
      clear hb

      have hcall := Erode_any jw jh a' c' m ys hn' sw sh as' cs ns bits hbn _ (by omega) ((hr'.below (Nat.le_refl _) hB).mono hB.size) (by omega) ((hrs.below (Nat.le_refl _) hB).mono hB.size)
      rw [hR2.out] at hcall
      refine hcall.mono ?_
      clear hcall
      rintro e V3 ⟨⟨v, rfl, hv⟩, hb⟩
      obtain ⟨sl, rfl, hrow⟩ := hv
      obtain ⟨srowya, srowyc, rfl⟩ := row_slice hrow
      have rowy := row_base hrow hB.size
      clear hrow
      clear m0 m1 m2 s0 s1 s2 t0 t1 t2 x0 x1 x2 fx0 fx1 fx2
      replace ka := ka.below hb ka.lt
      replace kb := kb.below hb kb.lt
      replace ks := ks.below hb ks.lt
      replace kx := kx.below hb kx.lt
      replace rowx := row_below rowx hb
      replace hB := hB.trans (hb.mono hB.size)
      have m0 := ka.cell (i := 0) rfl
      have m1 := ka.cell (i := 1) rfl
      have m2 := ka.cell (i := 2) rfl
      have s0 := kb.cell (i := 0) rfl
      have s1 := kb.cell (i := 1) rfl
      have s2 := kb.cell (i := 2) rfl
      have t0 := ks.cell (i := 0) rfl
      have t1 := ks.cell (i := 1) rfl
      have t2 := ks.cell (i := 2) rfl
      have x0 := kx.cell (i := 0) rfl
      have x1 := kx.cell (i := 1) rfl
      have x2 := kx.cell (i := 2) rfl
      have fx0 := kx.frozen 0
      have fx1 := kx.frozen 1
      have fx2 := kx.frozen 2
      clear hb
      obtain ⟨V4, hW⟩ : ∃ V4, V3.alloc (.cells #[.int .i64 q2w, .int .i64 q2h, .slice srowya q2px.length srowyc] 24) = V4 := ⟨_, rfl⟩
      obtain ⟨byy, hbx⟩ : ∃ byy, V3.heap.size = byy := ⟨_, rfl⟩
      have ky := Blk.new V3 24 #[.int .i64 q2w, .int .i64 q2h, .slice srowya q2px.length srowyc]
      rw [hW, hbx] at ky
      have hb : Below V3.heap.size V3 V4 := alloc_below hW
      have ka' := ka.below hb ka.lt
      have lkaky := ka.lt
      rw [hbx] at lkaky
      have kb' := kb.below hb kb.lt
      have lkbky := kb.lt
      rw [hbx] at lkbky
      have ks' := ks.below hb ks.lt
      have lksky := ks.lt
      rw [hbx] at lksky
      have kx' := kx.below hb kx.lt
      have lkxky := kx.lt
      rw [hbx] at lkxky
      have m0' := ka'.cell (i := 0) rfl
      have m1' := ka'.cell (i := 1) rfl
      have m2' := ka'.cell (i := 2) rfl
      have s0' := kb'.cell (i := 0) rfl
      have s1' := kb'.cell (i := 1) rfl
      have s2' := kb'.cell (i := 2) rfl
      have t0' := ks'.cell (i := 0) rfl
      have t1' := ks'.cell (i := 1) rfl
      have t2' := ks'.cell (i := 2) rfl
      have x0' := kx'.cell (i := 0) rfl
      have x1' := kx'.cell (i := 1) rfl
      have x2' := kx'.cell (i := 2) rfl
      have fx0' := kx'.frozen 0
      have fx1' := kx'.frozen 1
      have fx2' := kx'.frozen 2
      have y0 := ky.cell (i := 0) rfl
      have y1 := ky.cell (i := 1) rfl
      have y2 := ky.cell (i := 2) rfl
      have fy0 := ky.frozen 0
      have fy1 := ky.frozen 1
      have fy2 := ky.frozen 2
      go_wp2_with fail
      clear hW
      clear hbx
      clear m0 m1 m2 s0 s1 s2 t0 t1 t2 x0 x1 x2 fx0 fx1 fx2
      clear m0' m1' m2' s0' s1' s2' t0' t1' t2' x0' x1' x2' fx0' fx1' fx2'
      replace ka := ka'
      clear ka'
      replace kb := kb'
      clear kb'
      replace ks := ks'
      clear ks'
      replace kx := kx'
      clear kx'
      have m0 := ka.cell (i := 0) rfl
      have m1 := ka.cell (i := 1) rfl
      have m2 := ka.cell (i := 2) rfl
      have s0 := kb.cell (i := 0) rfl
      have s1 := kb.cell (i := 1) rfl
      have s2 := kb.cell (i := 2) rfl
      have t0 := ks.cell (i := 0) rfl
      have t1 := ks.cell (i := 1) rfl
      have t2 := ks.cell (i := 2) rfl
      have x0 := kx.cell (i := 0) rfl
      have x1 := kx.cell (i := 1) rfl
      have x2 := kx.cell (i := 2) rfl
      have fx0 := kx.frozen 0
      have fx1 := kx.frozen 1
      have fx2 := kx.frozen 2
      replace rowx := row_below rowx hb
      replace rowy := row_below rowy hb
      replace hB := hB.trans (hb.mono hB.size)
      clear hb
      refine (sized_any iw ih a c n xs hn jw jh a' c' m ys hn' _ hzv _ (by omega) ((hr.below (Nat.le_refl _) hB).mono hB.size) (by omega) ((hr'.below (Nat.le_refl _) hB).mono hB.size)).mono ?_
      rintro e V9 ⟨rfl, hb⟩
      clear m0 m1 m2 s0 s1 s2 t0 t1 t2 x0 x1 x2 fx0 fx1 fx2 y0 y1 y2 fy0 fy1 fy2
      replace ka := ka.below hb ka.lt
      replace kb := kb.below hb kb.lt
      replace ks := ks.below hb ks.lt
      replace kx := kx.below hb kx.lt
      replace ky := ky.below hb ky.lt
      replace rowx := row_below rowx hb
      replace rowy := row_below rowy hb
      replace hB := hB.trans (hb.mono hB.size)
      have m0 := ka.cell (i := 0) rfl
      have m1 := ka.cell (i := 1) rfl
      have m2 := ka.cell (i := 2) rfl
      have s0 := kb.cell (i := 0) rfl
      have s1 := kb.cell (i := 1) rfl
      have s2 := kb.cell (i := 2) rfl
      have t0 := ks.cell (i := 0) rfl
      have t1 := ks.cell (i := 1) rfl
      have t2 := ks.cell (i := 2) rfl
      have x0 := kx.cell (i := 0) rfl
      have x1 := kx.cell (i := 1) rfl
      have x2 := kx.cell (i := 2) rfl
      have fx0 := kx.frozen 0
      have fx1 := kx.frozen 1
      have fx2 := kx.frozen 2
      have y0 := ky.cell (i := 0) rfl
      have y1 := ky.cell (i := 1) rfl
      have y2 := ky.cell (i := 2) rfl
      have fy0 := ky.frozen 0
      have fy1 := ky.frozen 1
      have fy2 := ky.frozen 2
      clear hb
      go_wp2_with fail
      refine (ValidShape_any sw sh as' cs ns bits hbn _ hsv _ (by omega) ((hrs.below (Nat.le_refl _) hB).mono hB.size)).mono ?_
      rintro e V10 ⟨rfl, hb⟩
      clear m0 m1 m2 s0 s1 s2 t0 t1 t2 x0 x1 x2 fx0 fx1 fx2 y0 y1 y2 fy0 fy1 fy2
      replace ka := ka.below hb ka.lt
      replace kb := kb.below hb kb.lt
      replace ks := ks.below hb ks.lt
      replace kx := kx.below hb kx.lt
      replace ky := ky.below hb ky.lt
      replace rowx := row_below rowx hb
      replace rowy := row_below rowy hb
      replace hB := hB.trans (hb.mono hB.size)
      have m0 := ka.cell (i := 0) rfl
      have m1 := ka.cell (i := 1) rfl
      have m2 := ka.cell (i := 2) rfl
      have s0 := kb.cell (i := 0) rfl
      have s1 := kb.cell (i := 1) rfl
      have s2 := kb.cell (i := 2) rfl
      have t0 := ks.cell (i := 0) rfl
      have t1 := ks.cell (i := 1) rfl
      have t2 := ks.cell (i := 2) rfl
      have x0 := kx.cell (i := 0) rfl
      have x1 := kx.cell (i := 1) rfl
      have x2 := kx.cell (i := 2) rfl
      have fx0 := kx.frozen 0
      have fx1 := kx.frozen 1
      have fx2 := kx.frozen 2
      have y0 := ky.cell (i := 0) rfl
      have y1 := ky.cell (i := 1) rfl
      have y2 := ky.cell (i := 2) rfl
      have fy0 := ky.frozen 0
      have fy1 := ky.frozen 1
      have fy2 := ky.frozen 2
      clear hb
      go_wp2_with fail
      go_ret
      exact ⟨rfl, hB⟩
    | true =>
      have hz := hzv.out
      simp only [sizedB, Bool.and_eq_true, decide_eq_true_eq] at hz
      obtain ⟨⟨⟨hv1, hv2⟩, hj1⟩, hj2⟩ := hz
      subst hj1 hj2
      obtain ⟨⟨i1, i2⟩, ⟨i3, i4⟩, hl1, ha1⟩ := vld_true hv1
      obtain ⟨_, _, hl2, ha2⟩ := vld_true hv2
      have e1 := hR1.out
      have e2 := hR2.out
      unfold morS at e1 e2
      rw [if_pos hv1, if_pos hsv.out] at e1
      rw [if_pos hv2, if_pos hsv.out] at e2
      simp only [ImR.mk.injEq] at e1 e2
      obtain ⟨j1, j2, hp1, j3⟩ := e1
      subst j1 j2 j3
      obtain ⟨j1, j2, hp2, j3⟩ := e2
      subst j1 j2 j3
      have hN : (iw.toNat * ih.toNat : Nat) = (iw * ih).toNat := (Int.toNat_mul (by omega) (by omega)).symm
      have hL1 : q1px.length = iw.toNat * ih.toNat := by rw [← hp1, img_length]
      have hL2 : q2px.length = iw.toNat * ih.toNat := by rw [← hp2, img_length]
      have hpos : 0 < iw.toNat * ih.toNat := Nat.mul_pos (by omega) (by omega)
      obtain ⟨pw, hpw⟩ : ∃ pw : Nat, iw = (pw : Int) := ⟨iw.toNat, by omega⟩
      obtain ⟨ph, hph⟩ : ∃ ph : Nat, ih = (ph : Int) := ⟨ih.toNat, by omega⟩
      obtain ⟨β, hβ⟩ : ∃ β, belowB (iw.toNat * ih.toNat) q1px ys = β := ⟨_, rfl⟩
      have hβ' : belowB (iw.toNat * ih.toNat) xs q2px = β := by
        rw [← hβ, ← hp1, ← hp2, hpw, hph]
        exact adj_iff ha1 ha2 |>.symm
      rw [← hL1] at hβ
      rw [← hL2] at hβ'
      have hβ1 := Lib.hid hβ
      have hβ2 := Lib.hid hβ'
      have en : n = q2px.length := by have := hn.out; omega
      have em : m = q1px.length := by have := hn'.out; omega
      subst en em
      have hp1 : 0 < q1px.length := by omega
      have hp2 : 0 < q2px.length := by omega
      clear hv1 hv2 hl1 ha1 hl2 ha2 hβ hβ' hpw hph hN hL1 hL2 hpos
      have hB : Below w.heap.size w (((w.alloc (.cells #[.int .i64 iw, .int .i64 ih, .slice a q2px.length c] 24)).alloc (.cells #[.int .i64 iw, .int .i64 ih, .slice a' q1px.length c'] 24)).alloc (.cells #[.int .i64 sw, .int .i64 sh, .slice as' ns cs] 40)) := below_al (below_al (below_al (Below.refl _ _) _) _) _
      have ka := ((Blk.new w 24 #[.int .i64 iw, .int .i64 ih, .slice a q2px.length c]).alloc (.cells #[.int .i64 iw, .int .i64 ih, .slice a' q1px.length c'] 24)).alloc (.cells #[.int .i64 sw, .int .i64 sh, .slice as' ns cs] 40)
      have kb := (Blk.new (w.alloc (.cells #[.int .i64 iw, .int .i64 ih, .slice a q2px.length c] 24)) 24 #[.int .i64 iw, .int .i64 ih, .slice a' q1px.length c']).alloc (.cells #[.int .i64 sw, .int .i64 sh, .slice as' ns cs] 40)
      have ks := Blk.new ((w.alloc (.cells #[.int .i64 iw, .int .i64 ih, .slice a q2px.length c] 24)).alloc (.cells #[.int .i64 iw, .int .i64 ih, .slice a' q1px.length c'] 24)) 40 #[.int .i64 sw, .int .i64 sh, .slice as' ns cs]
      simp only [World.size_alloc] at kb ks
      obtain ⟨W0, hW⟩ : ∃ W, ((w.alloc (.cells #[.int .i64 iw, .int .i64 ih, .slice a q2px.length c] 24)).alloc (.cells #[.int .i64 iw, .int .i64 ih, .slice a' q1px.length c'] 24)).alloc (.cells #[.int .i64 sw, .int .i64 sh, .slice as' ns cs] 40) = W := ⟨_, rfl⟩
      rw [hW] at hB ka kb ks
      have m0 := ka.cell (i := 0) rfl
      have m1 := ka.cell (i := 1) rfl
      have m2 := ka.cell (i := 2) rfl
      have s0 := kb.cell (i := 0) rfl
      have s1 := kb.cell (i := 1) rfl
      have s2 := kb.cell (i := 2) rfl
      have t0 := ks.cell (i := 0) rfl
      have t1 := ks.cell (i := 1) rfl
      have t2 := ks.cell (i := 2) rfl
      go_enter Try.func13, Try.ntmps13
      go_wp2_with fail
      clear hW
      refine (alive_any _).mono ?_
      rintro e V0 ⟨rfl, hb⟩
      clear m0 m1 m2 s0 s1 s2 t0 t1 t2
      replace ka := ka.below hb ka.lt
      replace kb := kb.below hb kb.lt
      replace ks := ks.below hb ks.lt
      replace hB := hB.trans (hb.mono hB.size)
      have m0 := ka.cell (i := 0) rfl
      have m1 := ka.cell (i := 1) rfl
      have m2 := ka.cell (i := 2) rfl
      have s0 := kb.cell (i := 0) rfl
      have s1 := kb.cell (i := 1) rfl
      have s2 := kb.cell (i := 2) rfl
      have t0 := ks.cell (i := 0) rfl
      have t1 := ks.cell (i := 1) rfl
      have t2 := ks.cell (i := 2) rfl
      clear hb
      go_wp2_with fail
      have hcall := Dilate_any iw ih a c q2px.length xs hn sw sh as' cs ns bits hbn _ (by omega) ((hr.below (Nat.le_refl _) hB).mono hB.size) (by omega) ((hrs.below (Nat.le_refl _) hB).mono hB.size)
      rw [hR1.out] at hcall
      refine hcall.mono ?_
      clear hcall
      rintro e V1 ⟨⟨v, rfl, hv⟩, hb⟩
      obtain ⟨sl, rfl, hrow⟩ := hv
      obtain ⟨srowxa, srowxc, rfl⟩ := row_slice hrow
      have rowx := row_base hrow hB.size
      clear hrow
      clear m0 m1 m2 s0 s1 s2 t0 t1 t2
      replace ka := ka.below hb ka.lt
      replace kb := kb.below hb kb.lt
      replace ks := ks.below hb ks.lt
      replace hB := hB.trans (hb.mono hB.size)
      have m0 := ka.cell (i := 0) rfl
      have m1 := ka.cell (i := 1) rfl
      have m2 := ka.cell (i := 2) rfl
      have s0 := kb.cell (i := 0) rfl
      have s1 := kb.cell (i := 1) rfl
      have s2 := kb.cell (i := 2) rfl
      have t0 := ks.cell (i := 0) rfl
      have t1 := ks.cell (i := 1) rfl
      have t2 := ks.cell (i := 2) rfl
      clear hb
      obtain ⟨V2, hW⟩ : ∃ V2, V1.alloc (.cells #[.int .i64 iw, .int .i64 ih, .slice srowxa q1px.length srowxc] 24) = V2 := ⟨_, rfl⟩
      obtain ⟨bx, hbx⟩ : ∃ bx, V1.heap.size = bx := ⟨_, rfl⟩
      have kx := Blk.new V1 24 #[.int .i64 iw, .int .i64 ih, .slice srowxa q1px.length srowxc]
      rw [hW, hbx] at kx
      have hb : Below V1.heap.size V1 V2 := alloc_below hW
      have ka' := ka.below hb ka.lt
      have lkakx := ka.lt
      rw [hbx] at lkakx
      have kb' := kb.below hb kb.lt
      have lkbkx := kb.lt
      rw [hbx] at lkbkx
      have ks' := ks.below hb ks.lt
      have lkskx := ks.lt
      rw [hbx] at lkskx
      have m0' := ka'.cell (i := 0) rfl
      have m1' := ka'.cell (i := 1) rfl
      have m2' := ka'.cell (i := 2) rfl
      have s0' := kb'.cell (i := 0) rfl
      have s1' := kb'.cell (i := 1) rfl
      have s2' := kb'.cell (i := 2) rfl
      have t0' := ks'.cell (i := 0) rfl
      have t1' := ks'.cell (i := 1) rfl
      have t2' := ks'.cell (i := 2) rfl
      have x0 := kx.cell (i := 0) rfl
      have x1 := kx.cell (i := 1) rfl
      have x2 := kx.cell (i := 2) rfl
      have fx0 := kx.frozen 0
      have fx1 := kx.frozen 1
      have fx2 := kx.frozen 2
      go_wp2_with fail
      clear hW
      clear hbx
      clear m0 m1 m2 s0 s1 s2 t0 t1 t2
      clear m0' m1' m2' s0' s1' s2' t0' t1' t2'
      replace ka := ka'
      clear ka'
      replace kb := kb'
      clear kb'
      replace ks := ks'
      clear ks'
      have m0 := ka.cell (i := 0) rfl
      have m1 := ka.cell (i := 1) rfl
      have m2 := ka.cell (i := 2) rfl
      have s0 := kb.cell (i := 0) rfl
      have s1 := kb.cell (i := 1) rfl
      have s2 := kb.cell (i := 2) rfl
      have t0 := ks.cell (i := 0) rfl
      have t1 := ks.cell (i := 1) rfl
      have t2 := ks.cell (i := 2) rfl
      replace rowx := row_below rowx hb
      replace hB := hB.trans (hb.mono hB.size)
      clear hb

      have hcall := Erode_any iw ih a' c' q1px.length ys hn' sw sh as' cs ns bits hbn _ (by omega) ((hr'.below (Nat.le_refl _) hB).mono hB.size) (by omega) ((hrs.below (Nat.le_refl _) hB).mono hB.size)
      rw [hR2.out] at hcall
      refine hcall.mono ?_
      clear hcall
      rintro e V3 ⟨⟨v, rfl, hv⟩, hb⟩
      obtain ⟨sl, rfl, hrow⟩ := hv
      obtain ⟨srowya, srowyc, rfl⟩ := row_slice hrow
      have rowy := row_base hrow hB.size
      clear hrow
      clear m0 m1 m2 s0 s1 s2 t0 t1 t2 x0 x1 x2 fx0 fx1 fx2
      replace ka := ka.below hb ka.lt
      replace kb := kb.below hb kb.lt
      replace ks := ks.below hb ks.lt
      replace kx := kx.below hb kx.lt
      replace rowx := row_below rowx hb
      replace hB := hB.trans (hb.mono hB.size)
      have m0 := ka.cell (i := 0) rfl
      have m1 := ka.cell (i := 1) rfl
      have m2 := ka.cell (i := 2) rfl
      have s0 := kb.cell (i := 0) rfl
      have s1 := kb.cell (i := 1) rfl
      have s2 := kb.cell (i := 2) rfl
      have t0 := ks.cell (i := 0) rfl
      have t1 := ks.cell (i := 1) rfl
      have t2 := ks.cell (i := 2) rfl
      have x0 := kx.cell (i := 0) rfl
      have x1 := kx.cell (i := 1) rfl
      have x2 := kx.cell (i := 2) rfl
      have fx0 := kx.frozen 0
      have fx1 := kx.frozen 1
      have fx2 := kx.frozen 2
      clear hb
      obtain ⟨V4, hW⟩ : ∃ V4, V3.alloc (.cells #[.int .i64 iw, .int .i64 ih, .slice srowya q2px.length srowyc] 24) = V4 := ⟨_, rfl⟩
      obtain ⟨byy, hbx⟩ : ∃ byy, V3.heap.size = byy := ⟨_, rfl⟩
      have ky := Blk.new V3 24 #[.int .i64 iw, .int .i64 ih, .slice srowya q2px.length srowyc]
      rw [hW, hbx] at ky
      have hb : Below V3.heap.size V3 V4 := alloc_below hW
      have ka' := ka.below hb ka.lt
      have lkaky := ka.lt
      rw [hbx] at lkaky
      have kb' := kb.below hb kb.lt
      have lkbky := kb.lt
      rw [hbx] at lkbky
      have ks' := ks.below hb ks.lt
      have lksky := ks.lt
      rw [hbx] at lksky
      have kx' := kx.below hb kx.lt
      have lkxky := kx.lt
      rw [hbx] at lkxky
      have m0' := ka'.cell (i := 0) rfl
      have m1' := ka'.cell (i := 1) rfl
      have m2' := ka'.cell (i := 2) rfl
      have s0' := kb'.cell (i := 0) rfl
      have s1' := kb'.cell (i := 1) rfl
      have s2' := kb'.cell (i := 2) rfl
      have t0' := ks'.cell (i := 0) rfl
      have t1' := ks'.cell (i := 1) rfl
      have t2' := ks'.cell (i := 2) rfl
      have x0' := kx'.cell (i := 0) rfl
      have x1' := kx'.cell (i := 1) rfl
      have x2' := kx'.cell (i := 2) rfl
      have fx0' := kx'.frozen 0
      have fx1' := kx'.frozen 1
      have fx2' := kx'.frozen 2
      have y0 := ky.cell (i := 0) rfl
      have y1 := ky.cell (i := 1) rfl
      have y2 := ky.cell (i := 2) rfl
      have fy0 := ky.frozen 0
      have fy1 := ky.frozen 1
      have fy2 := ky.frozen 2
      go_wp2_with fail
      clear hW
      clear hbx
      clear m0 m1 m2 s0 s1 s2 t0 t1 t2 x0 x1 x2 fx0 fx1 fx2
      clear m0' m1' m2' s0' s1' s2' t0' t1' t2' x0' x1' x2' fx0' fx1' fx2'
      replace ka := ka'
      clear ka'
      replace kb := kb'
      clear kb'
      replace ks := ks'
      clear ks'
      replace kx := kx'
      clear kx'
      have m0 := ka.cell (i := 0) rfl
      have m1 := ka.cell (i := 1) rfl
      have m2 := ka.cell (i := 2) rfl
      have s0 := kb.cell (i := 0) rfl
      have s1 := kb.cell (i := 1) rfl
      have s2 := kb.cell (i := 2) rfl
      have t0 := ks.cell (i := 0) rfl
      have t1 := ks.cell (i := 1) rfl
      have t2 := ks.cell (i := 2) rfl
      have x0 := kx.cell (i := 0) rfl
      have x1 := kx.cell (i := 1) rfl
      have x2 := kx.cell (i := 2) rfl
      have fx0 := kx.frozen 0
      have fx1 := kx.frozen 1
      have fx2 := kx.frozen 2
      replace rowx := row_below rowx hb
      replace rowy := row_below rowy hb
      replace hB := hB.trans (hb.mono hB.size)
      clear hb
      refine (sized_any iw ih a c q2px.length xs hn iw ih a' c' q1px.length ys hn' _ hzv _ (by omega) ((hr.below (Nat.le_refl _) hB).mono hB.size) (by omega) ((hr'.below (Nat.le_refl _) hB).mono hB.size)).mono ?_
      rintro e V9 ⟨rfl, hb⟩
      clear m0 m1 m2 s0 s1 s2 t0 t1 t2 x0 x1 x2 fx0 fx1 fx2 y0 y1 y2 fy0 fy1 fy2
      replace ka := ka.below hb ka.lt
      replace kb := kb.below hb kb.lt
      replace ks := ks.below hb ks.lt
      replace kx := kx.below hb kx.lt
      replace ky := ky.below hb ky.lt
      replace rowx := row_below rowx hb
      replace rowy := row_below rowy hb
      replace hB := hB.trans (hb.mono hB.size)
      have m0 := ka.cell (i := 0) rfl
      have m1 := ka.cell (i := 1) rfl
      have m2 := ka.cell (i := 2) rfl
      have s0 := kb.cell (i := 0) rfl
      have s1 := kb.cell (i := 1) rfl
      have s2 := kb.cell (i := 2) rfl
      have t0 := ks.cell (i := 0) rfl
      have t1 := ks.cell (i := 1) rfl
      have t2 := ks.cell (i := 2) rfl
      have x0 := kx.cell (i := 0) rfl
      have x1 := kx.cell (i := 1) rfl
      have x2 := kx.cell (i := 2) rfl
      have fx0 := kx.frozen 0
      have fx1 := kx.frozen 1
      have fx2 := kx.frozen 2
      have y0 := ky.cell (i := 0) rfl
      have y1 := ky.cell (i := 1) rfl
      have y2 := ky.cell (i := 2) rfl
      have fy0 := ky.frozen 0
      have fy1 := ky.frozen 1
      have fy2 := ky.frozen 2
      clear hb
      go_wp2_with fail
      refine (ValidShape_any sw sh as' cs ns bits hbn _ hsv _ (by omega) ((hrs.below (Nat.le_refl _) hB).mono hB.size)).mono ?_
      rintro e V10 ⟨rfl, hb⟩
      clear m0 m1 m2 s0 s1 s2 t0 t1 t2 x0 x1 x2 fx0 fx1 fx2 y0 y1 y2 fy0 fy1 fy2
      replace ka := ka.below hb ka.lt
      replace kb := kb.below hb kb.lt
      replace ks := ks.below hb ks.lt
      replace kx := kx.below hb kx.lt
      replace ky := ky.below hb ky.lt
      replace rowx := row_below rowx hb
      replace rowy := row_below rowy hb
      replace hB := hB.trans (hb.mono hB.size)
      have m0 := ka.cell (i := 0) rfl
      have m1 := ka.cell (i := 1) rfl
      have m2 := ka.cell (i := 2) rfl
      have s0 := kb.cell (i := 0) rfl
      have s1 := kb.cell (i := 1) rfl
      have s2 := kb.cell (i := 2) rfl
      have t0 := ks.cell (i := 0) rfl
      have t1 := ks.cell (i := 1) rfl
      have t2 := ks.cell (i := 2) rfl
      have x0 := kx.cell (i := 0) rfl
      have x1 := kx.cell (i := 1) rfl
      have x2 := kx.cell (i := 2) rfl
      have fx0 := kx.frozen 0
      have fx1 := kx.frozen 1
      have fx2 := kx.frozen 2
      have y0 := ky.cell (i := 0) rfl
      have y1 := ky.cell (i := 1) rfl
      have y2 := ky.cell (i := 2) rfl
      have fy0 := ky.frozen 0
      have fy1 := ky.frozen 1
      have fy2 := ky.frozen 2
      clear hb
      have hS : Below V10.heap.size V10 V10.drew := (Below.refl _ _).drew
      go_wp2_with fail
      refine plain_region (fun W' => Below V10.heap.size V10 W') 19 19 (by kernel_rfl) rfl ?_
      simp only [Array.replicate_succ, Array.replicate_zero, List.push_toArray, List.nil_append, List.cons_append]
      refine take_op 0 (v := ?rv0) rfl (by kernel_rfl) (fun _ _ _ h => h) (by rfl) hS (fun w' hS' => ?ry0) ?rz0
      case ry0 =>
        go_simp
        rfl
      simp only [List.setIfInBounds_toArray, List.set_cons_zero, List.set_cons_succ]
      refine take_op 1 (v := ?rv1) rfl (by kernel_rfl) (fun _ _ _ h => h) (by rfl) hS (fun w' hS' => ?ry1) ?rz1
      case ry1 =>
        go_simp
        rfl
      simp only [List.setIfInBounds_toArray, List.set_cons_zero, List.set_cons_succ]
      refine take_op 2 (v := ?rv2) rfl (by kernel_rfl) (fun _ _ _ h => h) (by rfl) hS (fun w' hS' => ?ry2) ?rz2
      case ry2 =>
        go_simp
        rfl
      simp only [List.setIfInBounds_toArray, List.set_cons_zero, List.set_cons_succ]
      refine take_op 3 (v := .bool true) rfl (by kernel_rfl) (fun _ _ _ h => h) (by rfl) hS (fun w' hS' => ?ry3) ?rz3
      case ry3 =>
        go_simp
        try rfl
      simp only [List.setIfInBounds_toArray, List.set_cons_zero, List.set_cons_succ]
      refine take_op 4 (v := ?rv4) rfl (by kernel_rfl) (fun _ _ _ h => h) (by rfl) hS (fun w' hS' => ?ry4) ?rz4
      case ry4 =>
        go_simp
        rfl
      simp only [List.setIfInBounds_toArray, List.set_cons_zero, List.set_cons_succ]
      refine take_op 5 (v := ?rv5) rfl (by kernel_rfl) (fun _ _ _ h => h) (by rfl) hS (fun w' hS' => ?ry5) ?rz5
      case ry5 =>
        go_simp
        rfl
      simp only [List.setIfInBounds_toArray, List.set_cons_zero, List.set_cons_succ]
      refine take_op 6 (v := ?rv6) rfl (by kernel_rfl) (fun _ _ _ h => h) (by rfl) hS (fun w' hS' => ?ry6) ?rz6
      case ry6 =>
        go_simp
        rfl
      simp only [List.setIfInBounds_toArray, List.set_cons_zero, List.set_cons_succ]
      refine take_op 7 (v := .bool true) rfl (by kernel_rfl) (fun _ _ _ h => h) (by rfl) hS (fun w' hS' => ?ry7) ?rz7
      case ry7 =>
        go_simp
        try rfl
      simp only [List.setIfInBounds_toArray, List.set_cons_zero, List.set_cons_succ]
      refine take_op 8 (v := ?rv8) rfl (by kernel_rfl) (fun _ _ _ h => h) (by rfl) hS (fun w' hS' => ?ry8) ?rz8
      case ry8 =>
        go_simp
        rfl
      simp only [List.setIfInBounds_toArray, List.set_cons_zero, List.set_cons_succ]
      refine take_op 9 (v := ?rv9) rfl (by kernel_rfl) (fun _ _ _ h => h) (by rfl) hS (fun w' hS' => ?ry9) ?rz9
      case ry9 =>
        go_simp
        rfl
      simp only [List.setIfInBounds_toArray, List.set_cons_zero, List.set_cons_succ]
      refine take_op 10 (v := ?rv10) rfl (by kernel_rfl) (fun _ _ _ h => h) (by rfl) hS (fun w' hS' => ?ry10) ?rz10
      case ry10 =>
        have m0' := (ka.below hS' ka.lt).cell (i := 0) rfl
        have m1' := (ka.below hS' ka.lt).cell (i := 1) rfl
        have m2' := (ka.below hS' ka.lt).cell (i := 2) rfl
        have s0' := (kb.below hS' kb.lt).cell (i := 0) rfl
        have s1' := (kb.below hS' kb.lt).cell (i := 1) rfl
        have s2' := (kb.below hS' kb.lt).cell (i := 2) rfl
        have x0' := (kx.below hS' kx.lt).cell (i := 0) rfl
        have x1' := (kx.below hS' kx.lt).cell (i := 1) rfl
        have x2' := (kx.below hS' kx.lt).cell (i := 2) rfl
        have y0' := (ky.below hS' ky.lt).cell (i := 0) rfl
        have y1' := (ky.below hS' ky.lt).cell (i := 1) rfl
        have y2' := (ky.below hS' ky.lt).cell (i := 2) rfl
        go_simp
        rfl
      simp only [List.setIfInBounds_toArray, List.set_cons_zero, List.set_cons_succ]
      refine take_op 11 (v := ?rv11) rfl (by kernel_rfl) (fun _ _ _ h => h) (by rfl) hS (fun w' hS' => ?ry11) ?rz11
      case ry11 =>
        have m0' := (ka.below hS' ka.lt).cell (i := 0) rfl
        have m1' := (ka.below hS' ka.lt).cell (i := 1) rfl
        have m2' := (ka.below hS' ka.lt).cell (i := 2) rfl
        have s0' := (kb.below hS' kb.lt).cell (i := 0) rfl
        have s1' := (kb.below hS' kb.lt).cell (i := 1) rfl
        have s2' := (kb.below hS' kb.lt).cell (i := 2) rfl
        have x0' := (kx.below hS' kx.lt).cell (i := 0) rfl
        have x1' := (kx.below hS' kx.lt).cell (i := 1) rfl
        have x2' := (kx.below hS' kx.lt).cell (i := 2) rfl
        have y0' := (ky.below hS' ky.lt).cell (i := 0) rfl
        have y1' := (ky.below hS' ky.lt).cell (i := 1) rfl
        have y2' := (ky.below hS' ky.lt).cell (i := 2) rfl
        go_simp
        rfl
      simp only [List.setIfInBounds_toArray, List.set_cons_zero, List.set_cons_succ]
      refine take_op 13 (v := ?rv13) rfl (by kernel_rfl) (fun _ _ _ h => h) (by rfl) hS (fun w' hS' => ?ry13) ?rz13
      case ry13 =>
        have m0' := (ka.below hS' ka.lt).cell (i := 0) rfl
        have m1' := (ka.below hS' ka.lt).cell (i := 1) rfl
        have m2' := (ka.below hS' ka.lt).cell (i := 2) rfl
        have s0' := (kb.below hS' kb.lt).cell (i := 0) rfl
        have s1' := (kb.below hS' kb.lt).cell (i := 1) rfl
        have s2' := (kb.below hS' kb.lt).cell (i := 2) rfl
        have x0' := (kx.below hS' kx.lt).cell (i := 0) rfl
        have x1' := (kx.below hS' kx.lt).cell (i := 1) rfl
        have x2' := (kx.below hS' kx.lt).cell (i := 2) rfl
        have y0' := (ky.below hS' ky.lt).cell (i := 0) rfl
        have y1' := (ky.below hS' ky.lt).cell (i := 1) rfl
        have y2' := (ky.below hS' ky.lt).cell (i := 2) rfl
        go_simp
        rfl
      simp only [List.setIfInBounds_toArray, List.set_cons_zero, List.set_cons_succ]
      refine take_op 14 (v := ?rv14) rfl (by kernel_rfl) (fun _ _ _ h => h) (by rfl) hS (fun w' hS' => ?ry14) ?rz14
      case ry14 =>
        have m0' := (ka.below hS' ka.lt).cell (i := 0) rfl
        have m1' := (ka.below hS' ka.lt).cell (i := 1) rfl
        have m2' := (ka.below hS' ka.lt).cell (i := 2) rfl
        have s0' := (kb.below hS' kb.lt).cell (i := 0) rfl
        have s1' := (kb.below hS' kb.lt).cell (i := 1) rfl
        have s2' := (kb.below hS' kb.lt).cell (i := 2) rfl
        have x0' := (kx.below hS' kx.lt).cell (i := 0) rfl
        have x1' := (kx.below hS' kx.lt).cell (i := 1) rfl
        have x2' := (kx.below hS' kx.lt).cell (i := 2) rfl
        have y0' := (ky.below hS' ky.lt).cell (i := 0) rfl
        have y1' := (ky.below hS' ky.lt).cell (i := 1) rfl
        have y2' := (ky.below hS' ky.lt).cell (i := 2) rfl
        go_simp
        rfl
      simp only [List.setIfInBounds_toArray, List.set_cons_zero, List.set_cons_succ]
      refine step_op 12 (by kernel_rfl) rfl (fun K hK => ?_)
      rw [if_pos (by rfl)]
      go_simp
      refine (below_any iw ih srowxa a' srowxc c' q1px.length q1px ys (Lib.hid rfl) hn' β hβ1 hp1 _ (by omega) (row_rd (row_below rowx hS)) ((hr'.below (Nat.le_refl _) (hB.trans (hS.mono hB.size))).mono (Nat.le_trans hB.size hS.size))).mono ?_
      rintro e X1 ⟨rfl, hb⟩
      have hS1 := hS.trans (hb.mono hS.size)
      clear hb
      refine hK.out _ _ (fun h => hS1) ?_
      clear hK K
      try simp only [Act.put, List.setIfInBounds_toArray, List.set_cons_zero, List.set_cons_succ]
      refine step_op 15 (by kernel_rfl) rfl (fun K hK => ?_)
      rw [if_pos (by rfl)]
      go_simp
      refine (below_any iw ih a srowya c srowyc q2px.length xs q2px hn (Lib.hid rfl) β hβ2 hp2 _ (by omega) ((hr.below (Nat.le_refl _) (hB.trans (hS1.mono hB.size))).mono (Nat.le_trans hB.size hS1.size)) (row_rd (row_below rowy hS1))).mono ?_
      rintro e X2 ⟨rfl, hb⟩
      have hS2 := hS1.trans (hb.mono hS1.size)
      clear hb
      refine hK.out _ _ (fun h => hS2) ?_
      clear hK K
      try simp only [Act.put, List.setIfInBounds_toArray, List.set_cons_zero, List.set_cons_succ]
      refine take_op 16 (v := .bool true) rfl (by kernel_rfl) (fun _ _ _ h => h) (by rfl) hS2 (fun w' hS' => ?ry16) ?rz16
      case ry16 =>
        go_simp
        try simp
      simp only [List.setIfInBounds_toArray, List.set_cons_zero, List.set_cons_succ]
      refine take_op 17 (v := ?rv17) rfl (by kernel_rfl) (fun _ _ _ h => h) (by rfl) hS2 (fun w' hS' => ?ry17) ?rz17
      case ry17 =>
        go_simp
        rfl
      simp only [List.setIfInBounds_toArray, List.set_cons_zero, List.set_cons_succ]
      refine take_op 18 (v := ?rv18) rfl (by kernel_rfl) (fun _ _ _ h => h) (by rfl) hS2 (fun w' hS' => ?ry18) ?rz18
      case ry18 =>
        go_simp
        rfl
      simp only [List.setIfInBounds_toArray, List.set_cons_zero, List.set_cons_succ]
      refine done_ops (by kernel_rfl) ?_
      go_wp2_with fail
      go_ret
      exact ⟨rfl, hB.trans (hS2.mono hB.size)⟩

end Go.Proofs.Ytjglfeonoiljlaa
