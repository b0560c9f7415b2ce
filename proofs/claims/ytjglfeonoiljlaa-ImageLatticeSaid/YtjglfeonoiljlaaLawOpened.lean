/- The walk of the law ImageOpened: it returns true, and nothing that lay has turned. -/
import Derived.Test.YtjglfeonoiljlaaMorLaws
import Derived.Test.YtjglfeonoiljlaaAlive
namespace Go.Proofs.Ytjglfeonoiljlaa
open Go Go.RowKit Go.Shelf
set_option linter.unusedVariables false
set_option linter.unusedSimpArgs false

theorem morS_ok {mx : Bool} {pw ph : Nat} {xs : List Int} {sw sh : Int} {bits : List Bool} (hv : vld pw ph xs = true) (hs : shapeOk sw sh bits = true) : morS mx pw ph xs sw sh bits = { w := pw, h := ph, px := mor pw ph sw.toNat sh.toNat bits mx xs, err := 0 } := by
  unfold morS
  rw [if_pos hv, if_pos hs]
  rfl

set_option maxRecDepth 100000 in
set_option maxHeartbeats 8000000 in
theorem law_opened (iw ih : Int) (a : Option Addr) (c n : Nat) (xs : List Int) (hn : Hid (xs.length = n)) (sw sh : Int) (as' : Option Addr) (cs ns : Nat) (bits : List Bool) (hbn : Hid (bits.length = ns)) (w : World)
    (hm : n ≤ 9223372036854775807) (hr : Rd w.heap.size w a xs) (hms : ns ≤ 9223372036854775807) (hrs : RdB w.heap.size w as' bits) :
    Calls Try.prog 14 #[imv iw ih a n c, imv sw sh as' ns cs] w fun e w' => e = .returned (.bool true) ∧ Below w.heap.size w w' := by
  obtain ⟨zv, hzv0⟩ : ∃ v, vld iw ih xs = v := ⟨_, rfl⟩
  have hzv := Lib.hid hzv0
  obtain ⟨sv, hsv0⟩ : ∃ v, shapeOk sw sh bits = v := ⟨_, rfl⟩
  have hsv := Lib.hid hsv0
  clear hzv0 hsv0
  cases zv with
  | false =>
    obtain ⟨⟨q1w, q1h, q1px, q1e⟩, hR⟩ : ∃ r, morS false iw ih xs sw sh bits = r := ⟨_, rfl⟩
    have hR1 := Lib.hid hR
    have e1 : q1e = 20 := by
      have := hR
      unfold morS at this
      rw [if_neg (by rw [hzv.out]; decide)] at this
      simp only [noIm, ImR.mk.injEq] at this
      exact this.2.2.2.symm
    subst e1
    clear hR
    have hB : Below w.heap.size w ((w.alloc (.cells #[.int .i64 iw, .int .i64 ih, .slice a n c] 24)).alloc (.cells #[.int .i64 sw, .int .i64 sh, .slice as' ns cs] 40)) := below_al (below_al (Below.refl _ _) _) _
    have ka := ((Blk.new w 24 #[.int .i64 iw, .int .i64 ih, .slice a n c]).alloc (.cells #[.int .i64 sw, .int .i64 sh, .slice as' ns cs] 40))
    have ks := (Blk.new (w.alloc (.cells #[.int .i64 iw, .int .i64 ih, .slice a n c] 24)) 40 #[.int .i64 sw, .int .i64 sh, .slice as' ns cs])
    simp only [World.size_alloc] at ks
    obtain ⟨W0, hW⟩ : ∃ W, ((w.alloc (.cells #[.int .i64 iw, .int .i64 ih, .slice a n c] 24)).alloc (.cells #[.int .i64 sw, .int .i64 sh, .slice as' ns cs] 40)) = W := ⟨_, rfl⟩
    rw [hW] at hB ka ks
    have m0 := ka.cell (i := 0) rfl
    have m1 := ka.cell (i := 1) rfl
    have m2 := ka.cell (i := 2) rfl
    have t0 := ks.cell (i := 0) rfl
    have t1 := ks.cell (i := 1) rfl
    have t2 := ks.cell (i := 2) rfl
    go_enter Try.func14, Try.ntmps14
    go_wp2_with fail
    clear hW
    refine (alive_any _).mono ?_
    rintro e V1 ⟨rfl, hb⟩
    clear m0 m1 m2 t0 t1 t2
    replace ka := ka.below hb ka.lt
    replace ks := ks.below hb ks.lt
    replace hB := hB.trans (hb.mono hB.size)
    have m0 := ka.cell (i := 0) rfl
    have m1 := ka.cell (i := 1) rfl
    have m2 := ka.cell (i := 2) rfl
    have t0 := ks.cell (i := 0) rfl
    have t1 := ks.cell (i := 1) rfl
    have t2 := ks.cell (i := 2) rfl
    clear hb
    go_wp2_with fail
    have hcall := Erode_any iw ih a c n xs hn sw sh as' cs ns bits hbn _ (by omega) ((hr.below (Nat.le_refl _) hB).mono hB.size) (by omega) ((hrs.below (Nat.le_refl _) hB).mono hB.size)
    rw [hR1.out] at hcall
    refine hcall.mono ?_
    clear hcall
    rintro e V2 ⟨⟨v, rfl, hv⟩, hb⟩
    obtain ⟨sl, rfl, hrow⟩ := hv
    obtain ⟨srowxa, srowxc, rfl⟩ := row_slice hrow
    have rowx := row_base hrow hB.size
    clear hrow
    clear m0 m1 m2 t0 t1 t2
    replace ka := ka.below hb ka.lt
    replace ks := ks.below hb ks.lt
    replace hB := hB.trans (hb.mono hB.size)
    have m0 := ka.cell (i := 0) rfl
    have m1 := ka.cell (i := 1) rfl
    have m2 := ka.cell (i := 2) rfl
    have t0 := ks.cell (i := 0) rfl
    have t1 := ks.cell (i := 1) rfl
    have t2 := ks.cell (i := 2) rfl
    clear hb
    obtain ⟨V3, hW⟩ : ∃ V3, V2.alloc (.cells #[.int .i64 q1w, .int .i64 q1h, .slice srowxa q1px.length srowxc] 24) = V3 := ⟨_, rfl⟩
    obtain ⟨bx, hbx⟩ : ∃ bx, V2.heap.size = bx := ⟨_, rfl⟩
    have kx := Blk.new V2 24 #[.int .i64 q1w, .int .i64 q1h, .slice srowxa q1px.length srowxc]
    rw [hW, hbx] at kx
    have hb : Below V2.heap.size V2 V3 := alloc_below hW
    have ka' := ka.below hb ka.lt
    have lkakx := ka.lt
    rw [hbx] at lkakx
    have ks' := ks.below hb ks.lt
    have lkskx := ks.lt
    rw [hbx] at lkskx
    have m0' := ka'.cell (i := 0) rfl
    have m1' := ka'.cell (i := 1) rfl
    have m2' := ka'.cell (i := 2) rfl
    have t0' := ks'.cell (i := 0) rfl
    have t1' := ks'.cell (i := 1) rfl
    have t2' := ks'.cell (i := 2) rfl
    have x0 := kx.cell (i := 0) rfl
    have x1 := kx.cell (i := 1) rfl
    have x2 := kx.cell (i := 2) rfl
    have fx0 := kx.frozen 0
    have fx1 := kx.frozen 1
    have fx2 := kx.frozen 2
    go_wp2_with fail
    clear hW
    clear hbx
    clear m0 m1 m2 t0 t1 t2
    clear m0' m1' m2' t0' t1' t2'
    replace ka := ka'
    clear ka'
    replace ks := ks'
    clear ks'
    have m0 := ka.cell (i := 0) rfl
    have m1 := ka.cell (i := 1) rfl
    have m2 := ka.cell (i := 2) rfl
    have t0 := ks.cell (i := 0) rfl
    have t1 := ks.cell (i := 1) rfl
    have t2 := ks.cell (i := 2) rfl
    replace rowx := row_below rowx hb
    replace hB := hB.trans (hb.mono hB.size)
    clear hb
    refine (Valid_any iw ih a c xs n hn _ (by omega) ((hr.below (Nat.le_refl _) hB).mono hB.size)).mono ?_
    rintro e V8 ⟨rfl, hb⟩
    rw [hzv.out]
    clear m0 m1 m2 t0 t1 t2 x0 x1 x2 fx0 fx1 fx2
    replace ka := ka.below hb ka.lt
    replace ks := ks.below hb ks.lt
    replace kx := kx.below hb kx.lt
    replace rowx := row_below rowx hb
    replace hB := hB.trans (hb.mono hB.size)
    have m0 := ka.cell (i := 0) rfl
    have m1 := ka.cell (i := 1) rfl
    have m2 := ka.cell (i := 2) rfl
    have t0 := ks.cell (i := 0) rfl
    have t1 := ks.cell (i := 1) rfl
    have t2 := ks.cell (i := 2) rfl
    have x0 := kx.cell (i := 0) rfl
    have x1 := kx.cell (i := 1) rfl
    have x2 := kx.cell (i := 2) rfl
    have fx0 := kx.frozen 0
    have fx1 := kx.frozen 1
    have fx2 := kx.frozen 2
    clear hb
    go_wp2_with fail
    go_ret
    exact ⟨rfl, hB⟩
  | true =>
    cases sv with
    | false =>
      obtain ⟨⟨q1w, q1h, q1px, q1e⟩, hR⟩ : ∃ r, morS false iw ih xs sw sh bits = r := ⟨_, rfl⟩
      have hR1 := Lib.hid hR
      have e1 : q1e = 22 := by
        have := hR
        unfold morS at this
        rw [if_pos hzv.out, if_neg (by rw [hsv.out]; decide)] at this
        simp only [noIm, ImR.mk.injEq] at this
        exact this.2.2.2.symm
      subst e1
      clear hR
      have hB : Below w.heap.size w ((w.alloc (.cells #[.int .i64 iw, .int .i64 ih, .slice a n c] 24)).alloc (.cells #[.int .i64 sw, .int .i64 sh, .slice as' ns cs] 40)) := below_al (below_al (Below.refl _ _) _) _
      have ka := ((Blk.new w 24 #[.int .i64 iw, .int .i64 ih, .slice a n c]).alloc (.cells #[.int .i64 sw, .int .i64 sh, .slice as' ns cs] 40))
      have ks := (Blk.new (w.alloc (.cells #[.int .i64 iw, .int .i64 ih, .slice a n c] 24)) 40 #[.int .i64 sw, .int .i64 sh, .slice as' ns cs])
      simp only [World.size_alloc] at ks
      obtain ⟨W0, hW⟩ : ∃ W, ((w.alloc (.cells #[.int .i64 iw, .int .i64 ih, .slice a n c] 24)).alloc (.cells #[.int .i64 sw, .int .i64 sh, .slice as' ns cs] 40)) = W := ⟨_, rfl⟩
      rw [hW] at hB ka ks
      have m0 := ka.cell (i := 0) rfl
      have m1 := ka.cell (i := 1) rfl
      have m2 := ka.cell (i := 2) rfl
      have t0 := ks.cell (i := 0) rfl
      have t1 := ks.cell (i := 1) rfl
      have t2 := ks.cell (i := 2) rfl
      go_enter Try.func14, Try.ntmps14
      go_wp2_with fail
      clear hW
      refine (alive_any _).mono ?_
      rintro e V1 ⟨rfl, hb⟩
      clear m0 m1 m2 t0 t1 t2
      replace ka := ka.below hb ka.lt
      replace ks := ks.below hb ks.lt
      replace hB := hB.trans (hb.mono hB.size)
      have m0 := ka.cell (i := 0) rfl
      have m1 := ka.cell (i := 1) rfl
      have m2 := ka.cell (i := 2) rfl
      have t0 := ks.cell (i := 0) rfl
      have t1 := ks.cell (i := 1) rfl
      have t2 := ks.cell (i := 2) rfl
      clear hb
      go_wp2_with fail
      have hcall := Erode_any iw ih a c n xs hn sw sh as' cs ns bits hbn _ (by omega) ((hr.below (Nat.le_refl _) hB).mono hB.size) (by omega) ((hrs.below (Nat.le_refl _) hB).mono hB.size)
      rw [hR1.out] at hcall
      refine hcall.mono ?_
      clear hcall
      rintro e V2 ⟨⟨v, rfl, hv⟩, hb⟩
      obtain ⟨sl, rfl, hrow⟩ := hv
      obtain ⟨srowxa, srowxc, rfl⟩ := row_slice hrow
      have rowx := row_base hrow hB.size
      clear hrow
      clear m0 m1 m2 t0 t1 t2
      replace ka := ka.below hb ka.lt
      replace ks := ks.below hb ks.lt
      replace hB := hB.trans (hb.mono hB.size)
      have m0 := ka.cell (i := 0) rfl
      have m1 := ka.cell (i := 1) rfl
      have m2 := ka.cell (i := 2) rfl
      have t0 := ks.cell (i := 0) rfl
      have t1 := ks.cell (i := 1) rfl
      have t2 := ks.cell (i := 2) rfl
      clear hb
      obtain ⟨V3, hW⟩ : ∃ V3, V2.alloc (.cells #[.int .i64 q1w, .int .i64 q1h, .slice srowxa q1px.length srowxc] 24) = V3 := ⟨_, rfl⟩
      obtain ⟨bx, hbx⟩ : ∃ bx, V2.heap.size = bx := ⟨_, rfl⟩
      have kx := Blk.new V2 24 #[.int .i64 q1w, .int .i64 q1h, .slice srowxa q1px.length srowxc]
      rw [hW, hbx] at kx
      have hb : Below V2.heap.size V2 V3 := alloc_below hW
      have ka' := ka.below hb ka.lt
      have lkakx := ka.lt
      rw [hbx] at lkakx
      have ks' := ks.below hb ks.lt
      have lkskx := ks.lt
      rw [hbx] at lkskx
      have m0' := ka'.cell (i := 0) rfl
      have m1' := ka'.cell (i := 1) rfl
      have m2' := ka'.cell (i := 2) rfl
      have t0' := ks'.cell (i := 0) rfl
      have t1' := ks'.cell (i := 1) rfl
      have t2' := ks'.cell (i := 2) rfl
      have x0 := kx.cell (i := 0) rfl
      have x1 := kx.cell (i := 1) rfl
      have x2 := kx.cell (i := 2) rfl
      have fx0 := kx.frozen 0
      have fx1 := kx.frozen 1
      have fx2 := kx.frozen 2
      go_wp2_with fail
      clear hW
      clear hbx
      clear m0 m1 m2 t0 t1 t2
      clear m0' m1' m2' t0' t1' t2'
      replace ka := ka'
      clear ka'
      replace ks := ks'
      clear ks'
      have m0 := ka.cell (i := 0) rfl
      have m1 := ka.cell (i := 1) rfl
      have m2 := ka.cell (i := 2) rfl
      have t0 := ks.cell (i := 0) rfl
      have t1 := ks.cell (i := 1) rfl
      have t2 := ks.cell (i := 2) rfl
      replace rowx := row_below rowx hb
      replace hB := hB.trans (hb.mono hB.size)
      clear hb
      refine (Valid_any iw ih a c xs n hn _ (by omega) ((hr.below (Nat.le_refl _) hB).mono hB.size)).mono ?_
      rintro e V8 ⟨rfl, hb⟩
      rw [hzv.out]
      clear m0 m1 m2 t0 t1 t2 x0 x1 x2 fx0 fx1 fx2
      replace ka := ka.below hb ka.lt
      replace ks := ks.below hb ks.lt
      replace kx := kx.below hb kx.lt
      replace rowx := row_below rowx hb
      replace hB := hB.trans (hb.mono hB.size)
      have m0 := ka.cell (i := 0) rfl
      have m1 := ka.cell (i := 1) rfl
      have m2 := ka.cell (i := 2) rfl
      have t0 := ks.cell (i := 0) rfl
      have t1 := ks.cell (i := 1) rfl
      have t2 := ks.cell (i := 2) rfl
      have x0 := kx.cell (i := 0) rfl
      have x1 := kx.cell (i := 1) rfl
      have x2 := kx.cell (i := 2) rfl
      have fx0 := kx.frozen 0
      have fx1 := kx.frozen 1
      have fx2 := kx.frozen 2
      clear hb
      go_wp2_with fail
      refine (ValidShape_any sw sh as' cs ns bits hbn _ hsv _ (by omega) ((hrs.below (Nat.le_refl _) hB).mono hB.size)).mono ?_
      rintro e V4 ⟨rfl, hb⟩
      clear m0 m1 m2 t0 t1 t2 x0 x1 x2 fx0 fx1 fx2
      replace ka := ka.below hb ka.lt
      replace ks := ks.below hb ks.lt
      replace kx := kx.below hb kx.lt
      replace rowx := row_below rowx hb
      replace hB := hB.trans (hb.mono hB.size)
      have m0 := ka.cell (i := 0) rfl
      have m1 := ka.cell (i := 1) rfl
      have m2 := ka.cell (i := 2) rfl
      have t0 := ks.cell (i := 0) rfl
      have t1 := ks.cell (i := 1) rfl
      have t2 := ks.cell (i := 2) rfl
      have x0 := kx.cell (i := 0) rfl
      have x1 := kx.cell (i := 1) rfl
      have x2 := kx.cell (i := 2) rfl
      have fx0 := kx.frozen 0
      have fx1 := kx.frozen 1
      have fx2 := kx.frozen 2
      clear hb
      go_wp2_with fail
      go_ret
      exact ⟨rfl, hB⟩
    | true =>
      obtain ⟨⟨i1, i2⟩, ⟨i3, i4⟩, hl, ha⟩ := vld_true hzv.out
      obtain ⟨pw, rfl⟩ : ∃ pw : Nat, iw = (pw : Int) := ⟨iw.toNat, by omega⟩
      obtain ⟨ph, rfl⟩ : ∃ ph : Nat, ih = (ph : Int) := ⟨ih.toNat, by omega⟩
      have hN : pw * ph = n := by
        have h2 : ((pw * ph : Nat) : Int) = (pw : Int) * ph := by simp
        have := hn.out
        omega
      have hn0 : 0 < n := by rw [← hN]; exact Nat.mul_pos (by omega) (by omega)
      have hv := fun (mx : Bool) (zs : List Int) => vld_img (pw := pw) (ph := ph) (by omega) (by omega) (by omega) (by omega) (morG mx pw ph zs sw.toNat sh.toNat bits)
      have hx : rng xs := ha
      have o1 := open_le (pw := pw) (ph := ph) (sw := sw.toNat) (sh := sh.toNat) (bits := bits) hx
      have o2 := le_close (pw := pw) (ph := ph) (sw := sw.toNat) (sh := sh.toNat) (bits := bits) hx
      have o3 := ero_once (pw := pw) (ph := ph) (sw := sw.toNat) (sh := sh.toNat) (bits := bits) hx
      have o4 := dil_once (pw := pw) (ph := ph) (sw := sw.toNat) (sh := sh.toNat) (bits := bits) hx
      have sA : morS false pw ph xs sw sh bits = { w := pw, h := ph, px := mor pw ph sw.toNat sh.toNat bits false xs, err := 0 } := morS_ok hzv.out hsv.out
      have sB : morS true pw ph (mor pw ph sw.toNat sh.toNat bits false xs) sw sh bits = { w := pw, h := ph, px := mor pw ph sw.toNat sh.toNat bits true (mor pw ph sw.toNat sh.toNat bits false xs), err := 0 } := morS_ok (hv _ _) hsv.out
      have sC : morS false pw ph (mor pw ph sw.toNat sh.toNat bits true (mor pw ph sw.toNat sh.toNat bits false xs)) sw sh bits = { w := pw, h := ph, px := mor pw ph sw.toNat sh.toNat bits false (mor pw ph sw.toNat sh.toNat bits true (mor pw ph sw.toNat sh.toNat bits false xs)), err := 0 } := morS_ok (hv _ _) hsv.out
      have sP : morS true pw ph xs sw sh bits = { w := pw, h := ph, px := mor pw ph sw.toNat sh.toNat bits true xs, err := 0 } := morS_ok hzv.out hsv.out
      have sQ : morS false pw ph (mor pw ph sw.toNat sh.toNat bits true xs) sw sh bits = { w := pw, h := ph, px := mor pw ph sw.toNat sh.toNat bits false (mor pw ph sw.toNat sh.toNat bits true xs), err := 0 } := morS_ok (hv _ _) hsv.out
      have sR : morS true pw ph (mor pw ph sw.toNat sh.toNat bits false (mor pw ph sw.toNat sh.toNat bits true xs)) sw sh bits = { w := pw, h := ph, px := mor pw ph sw.toNat sh.toNat bits true (mor pw ph sw.toNat sh.toNat bits false (mor pw ph sw.toNat sh.toNat bits true xs)), err := 0 } := morS_ok (hv _ _) hsv.out
      rw [o3] at sC
      rw [o4] at sR
      have lA := mor_len (pw := pw) (ph := ph) (sw := sw.toNat) (sh := sh.toNat) (bits := bits) false xs
      have lB := mor_len (pw := pw) (ph := ph) (sw := sw.toNat) (sh := sh.toNat) (bits := bits) true (mor pw ph sw.toNat sh.toNat bits false xs)
      have lP := mor_len (pw := pw) (ph := ph) (sw := sw.toNat) (sh := sh.toNat) (bits := bits) true xs
      have lQ := mor_len (pw := pw) (ph := ph) (sw := sw.toNat) (sh := sh.toNat) (bits := bits) false (mor pw ph sw.toNat sh.toNat bits true xs)
      rw [hN] at o1 o2 lA lB lP lQ
      clear o3 o4 hv
      obtain ⟨B, hB0⟩ : ∃ B, mor pw ph sw.toNat sh.toNat bits true (mor pw ph sw.toNat sh.toNat bits false xs) = B := ⟨_, rfl⟩
      rw [hB0] at o1 sB sC lB
      obtain ⟨A, hA0⟩ : ∃ A, mor pw ph sw.toNat sh.toNat bits false xs = A := ⟨_, rfl⟩
      rw [hA0] at sA sB sC lA
      obtain ⟨Q, hQ0⟩ : ∃ Q, mor pw ph sw.toNat sh.toNat bits false (mor pw ph sw.toNat sh.toNat bits true xs) = Q := ⟨_, rfl⟩
      rw [hQ0] at o2 sQ sR lQ
      obtain ⟨P, hP0⟩ : ∃ P, mor pw ph sw.toNat sh.toNat bits true xs = P := ⟨_, rfl⟩
      rw [hP0] at sP sQ sR lP
      have hSA := Lib.hid sA
      have hSB := Lib.hid sB
      have hSC := Lib.hid sC
      have hSP := Lib.hid sP
      have hSQ := Lib.hid sQ
      have hSR := Lib.hid sR
      have hlA := Lib.hid lA
      have hlB := Lib.hid lB
      have hlP := Lib.hid lP
      have hlQ := Lib.hid lQ
      have hb1 := Lib.hid o1
      have hb2 := Lib.hid o2
      clear sA sB sC sP sQ sR lA lB lP lQ o1 o2 hB0 hA0 hQ0 hP0 hx hN hl ha
      have hB : Below w.heap.size w ((w.alloc (.cells #[.int .i64 pw, .int .i64 ph, .slice a n c] 24)).alloc (.cells #[.int .i64 sw, .int .i64 sh, .slice as' ns cs] 40)) := below_al (below_al (Below.refl _ _) _) _
      have ka := ((Blk.new w 24 #[.int .i64 pw, .int .i64 ph, .slice a n c]).alloc (.cells #[.int .i64 sw, .int .i64 sh, .slice as' ns cs] 40))
      have ks := (Blk.new (w.alloc (.cells #[.int .i64 pw, .int .i64 ph, .slice a n c] 24)) 40 #[.int .i64 sw, .int .i64 sh, .slice as' ns cs])
      simp only [World.size_alloc] at ks
      obtain ⟨W0, hW⟩ : ∃ W, ((w.alloc (.cells #[.int .i64 pw, .int .i64 ph, .slice a n c] 24)).alloc (.cells #[.int .i64 sw, .int .i64 sh, .slice as' ns cs] 40)) = W := ⟨_, rfl⟩
      rw [hW] at hB ka ks
      have m0 := ka.cell (i := 0) rfl
      have m1 := ka.cell (i := 1) rfl
      have m2 := ka.cell (i := 2) rfl
      have t0 := ks.cell (i := 0) rfl
      have t1 := ks.cell (i := 1) rfl
      have t2 := ks.cell (i := 2) rfl
      go_enter Try.func14, Try.ntmps14
      go_wp2_with fail
      clear hW
      refine (alive_any _).mono ?_
      rintro e V1 ⟨rfl, hb⟩
      clear m0 m1 m2 t0 t1 t2
      replace ka := ka.below hb ka.lt
      replace ks := ks.below hb ks.lt
      replace hB := hB.trans (hb.mono hB.size)
      have m0 := ka.cell (i := 0) rfl
      have m1 := ka.cell (i := 1) rfl
      have m2 := ka.cell (i := 2) rfl
      have t0 := ks.cell (i := 0) rfl
      have t1 := ks.cell (i := 1) rfl
      have t2 := ks.cell (i := 2) rfl
      clear hb
      go_wp2_with fail
      have hcall := Erode_any pw ph a c n xs hn sw sh as' cs ns bits hbn _ (by omega) ((hr.below (Nat.le_refl _) hB).mono hB.size) (by omega) ((hrs.below (Nat.le_refl _) hB).mono hB.size)
      rw [hSA.out] at hcall
      refine hcall.mono ?_
      clear hcall
      rintro e V2 ⟨⟨v, hev, sl, hvl, hrow⟩, hb⟩
      have rA : V2.ownsRow w.heap.size 3 1 sl n ((A).map (Value.int .i64)) := row_base (row_len (k := (A).length) hlA.out hrow) hB.size
      obtain ⟨srAa, srAc, rfl⟩ := row_slice rA
      have he : e = .returned (.tuple #[.agg #[.int .i64 pw, .int .i64 ph, .slice srAa n srAc], .int .i64 0]) := by rw [hev, hvl]
      subst he
      clear hrow hev hvl
      clear m0 m1 m2 t0 t1 t2
      replace ka := ka.below hb ka.lt
      replace ks := ks.below hb ks.lt
      replace hB := hB.trans (hb.mono hB.size)
      have m0 := ka.cell (i := 0) rfl
      have m1 := ka.cell (i := 1) rfl
      have m2 := ka.cell (i := 2) rfl
      have t0 := ks.cell (i := 0) rfl
      have t1 := ks.cell (i := 1) rfl
      have t2 := ks.cell (i := 2) rfl
      clear hb
      obtain ⟨V3, hW⟩ : ∃ V3, V2.alloc (.cells #[.int .i64 pw, .int .i64 ph, .slice srAa n srAc] 24) = V3 := ⟨_, rfl⟩
      obtain ⟨bkA, hbx⟩ : ∃ bkA, V2.heap.size = bkA := ⟨_, rfl⟩
      have kA := Blk.new V2 24 #[.int .i64 pw, .int .i64 ph, .slice srAa n srAc]
      rw [hW, hbx] at kA
      have hb : Below V2.heap.size V2 V3 := alloc_below hW
      have ka' := ka.below hb ka.lt
      have lkakA := ka.lt
      rw [hbx] at lkakA
      have ks' := ks.below hb ks.lt
      have lkskA := ks.lt
      rw [hbx] at lkskA
      have m0' := ka'.cell (i := 0) rfl
      have m1' := ka'.cell (i := 1) rfl
      have m2' := ka'.cell (i := 2) rfl
      have t0' := ks'.cell (i := 0) rfl
      have t1' := ks'.cell (i := 1) rfl
      have t2' := ks'.cell (i := 2) rfl
      have xa0 := kA.cell (i := 0) rfl
      have xa1 := kA.cell (i := 1) rfl
      have xa2 := kA.cell (i := 2) rfl
      have fxa0 := kA.frozen 0
      have fxa1 := kA.frozen 1
      have fxa2 := kA.frozen 2
      go_wp2_with fail
      clear hW
      clear hbx
      clear m0 m1 m2 t0 t1 t2
      clear m0' m1' m2' t0' t1' t2'
      replace ka := ka'
      clear ka'
      replace ks := ks'
      clear ks'
      have m0 := ka.cell (i := 0) rfl
      have m1 := ka.cell (i := 1) rfl
      have m2 := ka.cell (i := 2) rfl
      have t0 := ks.cell (i := 0) rfl
      have t1 := ks.cell (i := 1) rfl
      have t2 := ks.cell (i := 2) rfl
      replace rA := row_below rA hb
      replace hB := hB.trans (hb.mono hB.size)
      clear hb
      refine (Valid_any pw ph a c xs n hn _ (by omega) ((hr.below (Nat.le_refl _) hB).mono hB.size)).mono ?_
      rintro e V8 ⟨rfl, hb⟩
      rw [hzv.out]
      clear m0 m1 m2 t0 t1 t2 xa0 xa1 xa2 fxa0 fxa1 fxa2
      replace ka := ka.below hb ka.lt
      replace ks := ks.below hb ks.lt
      replace kA := kA.below hb kA.lt
      replace rA := row_below rA hb
      replace hB := hB.trans (hb.mono hB.size)
      have m0 := ka.cell (i := 0) rfl
      have m1 := ka.cell (i := 1) rfl
      have m2 := ka.cell (i := 2) rfl
      have t0 := ks.cell (i := 0) rfl
      have t1 := ks.cell (i := 1) rfl
      have t2 := ks.cell (i := 2) rfl
      have xa0 := kA.cell (i := 0) rfl
      have xa1 := kA.cell (i := 1) rfl
      have xa2 := kA.cell (i := 2) rfl
      have fxa0 := kA.frozen 0
      have fxa1 := kA.frozen 1
      have fxa2 := kA.frozen 2
      clear hb
      go_wp2_with fail
      refine (ValidShape_any sw sh as' cs ns bits hbn _ hsv _ (by omega) ((hrs.below (Nat.le_refl _) hB).mono hB.size)).mono ?_
      rintro e V4 ⟨rfl, hb⟩
      clear m0 m1 m2 t0 t1 t2 xa0 xa1 xa2 fxa0 fxa1 fxa2
      replace ka := ka.below hb ka.lt
      replace ks := ks.below hb ks.lt
      replace kA := kA.below hb kA.lt
      replace rA := row_below rA hb
      replace hB := hB.trans (hb.mono hB.size)
      have m0 := ka.cell (i := 0) rfl
      have m1 := ka.cell (i := 1) rfl
      have m2 := ka.cell (i := 2) rfl
      have t0 := ks.cell (i := 0) rfl
      have t1 := ks.cell (i := 1) rfl
      have t2 := ks.cell (i := 2) rfl
      have xa0 := kA.cell (i := 0) rfl
      have xa1 := kA.cell (i := 1) rfl
      have xa2 := kA.cell (i := 2) rfl
      have fxa0 := kA.frozen 0
      have fxa1 := kA.frozen 1
      have fxa2 := kA.frozen 2
      clear hb
      go_wp2_with fail
      have hcall := Dilate_any pw ph srAa srAc n A hlA sw sh as' cs ns bits hbn _ (by omega) (row_rd' hlA.out rA) (by omega) ((hrs.below (Nat.le_refl _) hB).mono hB.size)
      rw [hSB.out] at hcall
      refine hcall.mono ?_
      clear hcall
      rintro e V5 ⟨⟨v, hev, sl, hvl, hrow⟩, hb⟩
      have rB : V5.ownsRow w.heap.size 3 1 sl n ((B).map (Value.int .i64)) := row_base (row_len (k := (B).length) hlB.out hrow) hB.size
      obtain ⟨srBa, srBc, rfl⟩ := row_slice rB
      have he : e = .returned (.tuple #[.agg #[.int .i64 pw, .int .i64 ph, .slice srBa n srBc], .int .i64 0]) := by rw [hev, hvl]
      subst he
      clear hrow hev hvl
      clear m0 m1 m2 t0 t1 t2 xa0 xa1 xa2 fxa0 fxa1 fxa2
      replace ka := ka.below hb ka.lt
      replace ks := ks.below hb ks.lt
      replace kA := kA.below hb kA.lt
      replace rA := row_below rA hb
      replace hB := hB.trans (hb.mono hB.size)
      have m0 := ka.cell (i := 0) rfl
      have m1 := ka.cell (i := 1) rfl
      have m2 := ka.cell (i := 2) rfl
      have t0 := ks.cell (i := 0) rfl
      have t1 := ks.cell (i := 1) rfl
      have t2 := ks.cell (i := 2) rfl
      have xa0 := kA.cell (i := 0) rfl
      have xa1 := kA.cell (i := 1) rfl
      have xa2 := kA.cell (i := 2) rfl
      have fxa0 := kA.frozen 0
      have fxa1 := kA.frozen 1
      have fxa2 := kA.frozen 2
      clear hb
      obtain ⟨V6, hW⟩ : ∃ V6, V5.alloc (.cells #[.int .i64 pw, .int .i64 ph, .slice srBa n srBc] 24) = V6 := ⟨_, rfl⟩
      obtain ⟨bkB, hbx⟩ : ∃ bkB, V5.heap.size = bkB := ⟨_, rfl⟩
      have kB := Blk.new V5 24 #[.int .i64 pw, .int .i64 ph, .slice srBa n srBc]
      rw [hW, hbx] at kB
      have hb : Below V5.heap.size V5 V6 := alloc_below hW
      have ka' := ka.below hb ka.lt
      have lkakB := ka.lt
      rw [hbx] at lkakB
      have ks' := ks.below hb ks.lt
      have lkskB := ks.lt
      rw [hbx] at lkskB
      have kA' := kA.below hb kA.lt
      have lkAkB := kA.lt
      rw [hbx] at lkAkB
      have m0' := ka'.cell (i := 0) rfl
      have m1' := ka'.cell (i := 1) rfl
      have m2' := ka'.cell (i := 2) rfl
      have t0' := ks'.cell (i := 0) rfl
      have t1' := ks'.cell (i := 1) rfl
      have t2' := ks'.cell (i := 2) rfl
      have xa0' := kA'.cell (i := 0) rfl
      have xa1' := kA'.cell (i := 1) rfl
      have xa2' := kA'.cell (i := 2) rfl
      have fxa0' := kA'.frozen 0
      have fxa1' := kA'.frozen 1
      have fxa2' := kA'.frozen 2
      have xb0 := kB.cell (i := 0) rfl
      have xb1 := kB.cell (i := 1) rfl
      have xb2 := kB.cell (i := 2) rfl
      have fxb0 := kB.frozen 0
      have fxb1 := kB.frozen 1
      have fxb2 := kB.frozen 2
      go_wp2_with fail
      clear hW
      clear hbx
      clear m0 m1 m2 t0 t1 t2 xa0 xa1 xa2 fxa0 fxa1 fxa2
      clear m0' m1' m2' t0' t1' t2' xa0' xa1' xa2' fxa0' fxa1' fxa2'
      replace ka := ka'
      clear ka'
      replace ks := ks'
      clear ks'
      replace kA := kA'
      clear kA'
      have m0 := ka.cell (i := 0) rfl
      have m1 := ka.cell (i := 1) rfl
      have m2 := ka.cell (i := 2) rfl
      have t0 := ks.cell (i := 0) rfl
      have t1 := ks.cell (i := 1) rfl
      have t2 := ks.cell (i := 2) rfl
      have xa0 := kA.cell (i := 0) rfl
      have xa1 := kA.cell (i := 1) rfl
      have xa2 := kA.cell (i := 2) rfl
      have fxa0 := kA.frozen 0
      have fxa1 := kA.frozen 1
      have fxa2 := kA.frozen 2
      replace rA := row_below rA hb
      replace rB := row_below rB hb
      replace hB := hB.trans (hb.mono hB.size)
      clear hb
      have hcall := Erode_any pw ph srBa srBc n B hlB sw sh as' cs ns bits hbn _ (by omega) (row_rd' hlB.out rB) (by omega) ((hrs.below (Nat.le_refl _) hB).mono hB.size)
      rw [hSC.out] at hcall
      refine hcall.mono ?_
      clear hcall
      rintro e V7 ⟨⟨v, hev, sl, hvl, hrow⟩, hb⟩
      have rC : V7.ownsRow w.heap.size 3 1 sl n ((A).map (Value.int .i64)) := row_base (row_len (k := (A).length) hlA.out hrow) hB.size
      obtain ⟨srCa, srCc, rfl⟩ := row_slice rC
      have he : e = .returned (.tuple #[.agg #[.int .i64 pw, .int .i64 ph, .slice srCa n srCc], .int .i64 0]) := by rw [hev, hvl]
      subst he
      clear hrow hev hvl
      clear m0 m1 m2 t0 t1 t2 xa0 xa1 xa2 fxa0 fxa1 fxa2 xb0 xb1 xb2 fxb0 fxb1 fxb2
      replace ka := ka.below hb ka.lt
      replace ks := ks.below hb ks.lt
      replace kA := kA.below hb kA.lt
      replace kB := kB.below hb kB.lt
      replace rA := row_below rA hb
      replace rB := row_below rB hb
      replace hB := hB.trans (hb.mono hB.size)
      have m0 := ka.cell (i := 0) rfl
      have m1 := ka.cell (i := 1) rfl
      have m2 := ka.cell (i := 2) rfl
      have t0 := ks.cell (i := 0) rfl
      have t1 := ks.cell (i := 1) rfl
      have t2 := ks.cell (i := 2) rfl
      have xa0 := kA.cell (i := 0) rfl
      have xa1 := kA.cell (i := 1) rfl
      have xa2 := kA.cell (i := 2) rfl
      have fxa0 := kA.frozen 0
      have fxa1 := kA.frozen 1
      have fxa2 := kA.frozen 2
      have xb0 := kB.cell (i := 0) rfl
      have xb1 := kB.cell (i := 1) rfl
      have xb2 := kB.cell (i := 2) rfl
      have fxb0 := kB.frozen 0
      have fxb1 := kB.frozen 1
      have fxb2 := kB.frozen 2
      clear hb
      obtain ⟨V8, hW⟩ : ∃ V8, V7.alloc (.cells #[.int .i64 pw, .int .i64 ph, .slice srCa n srCc] 24) = V8 := ⟨_, rfl⟩
      obtain ⟨bkC, hbx⟩ : ∃ bkC, V7.heap.size = bkC := ⟨_, rfl⟩
      have kC := Blk.new V7 24 #[.int .i64 pw, .int .i64 ph, .slice srCa n srCc]
      rw [hW, hbx] at kC
      have hb : Below V7.heap.size V7 V8 := alloc_below hW
      have ka' := ka.below hb ka.lt
      have lkakC := ka.lt
      rw [hbx] at lkakC
      have ks' := ks.below hb ks.lt
      have lkskC := ks.lt
      rw [hbx] at lkskC
      have kA' := kA.below hb kA.lt
      have lkAkC := kA.lt
      rw [hbx] at lkAkC
      have kB' := kB.below hb kB.lt
      have lkBkC := kB.lt
      rw [hbx] at lkBkC
      have m0' := ka'.cell (i := 0) rfl
      have m1' := ka'.cell (i := 1) rfl
      have m2' := ka'.cell (i := 2) rfl
      have t0' := ks'.cell (i := 0) rfl
      have t1' := ks'.cell (i := 1) rfl
      have t2' := ks'.cell (i := 2) rfl
      have xa0' := kA'.cell (i := 0) rfl
      have xa1' := kA'.cell (i := 1) rfl
      have xa2' := kA'.cell (i := 2) rfl
      have fxa0' := kA'.frozen 0
      have fxa1' := kA'.frozen 1
      have fxa2' := kA'.frozen 2
      have xb0' := kB'.cell (i := 0) rfl
      have xb1' := kB'.cell (i := 1) rfl
      have xb2' := kB'.cell (i := 2) rfl
      have fxb0' := kB'.frozen 0
      have fxb1' := kB'.frozen 1
      have fxb2' := kB'.frozen 2
      have xc0 := kC.cell (i := 0) rfl
      have xc1 := kC.cell (i := 1) rfl
      have xc2 := kC.cell (i := 2) rfl
      have fxc0 := kC.frozen 0
      have fxc1 := kC.frozen 1
      have fxc2 := kC.frozen 2
      go_wp2_with fail
      clear hW
      clear hbx
      clear m0 m1 m2 t0 t1 t2 xa0 xa1 xa2 fxa0 fxa1 fxa2 xb0 xb1 xb2 fxb0 fxb1 fxb2
      clear m0' m1' m2' t0' t1' t2' xa0' xa1' xa2' fxa0' fxa1' fxa2' xb0' xb1' xb2' fxb0' fxb1' fxb2'
      replace ka := ka'
      clear ka'
      replace ks := ks'
      clear ks'
      replace kA := kA'
      clear kA'
      replace kB := kB'
      clear kB'
      have m0 := ka.cell (i := 0) rfl
      have m1 := ka.cell (i := 1) rfl
      have m2 := ka.cell (i := 2) rfl
      have t0 := ks.cell (i := 0) rfl
      have t1 := ks.cell (i := 1) rfl
      have t2 := ks.cell (i := 2) rfl
      have xa0 := kA.cell (i := 0) rfl
      have xa1 := kA.cell (i := 1) rfl
      have xa2 := kA.cell (i := 2) rfl
      have fxa0 := kA.frozen 0
      have fxa1 := kA.frozen 1
      have fxa2 := kA.frozen 2
      have xb0 := kB.cell (i := 0) rfl
      have xb1 := kB.cell (i := 1) rfl
      have xb2 := kB.cell (i := 2) rfl
      have fxb0 := kB.frozen 0
      have fxb1 := kB.frozen 1
      have fxb2 := kB.frozen 2
      replace rA := row_below rA hb
      replace rB := row_below rB hb
      replace rC := row_below rC hb
      replace hB := hB.trans (hb.mono hB.size)
      clear hb
      have hcall := Dilate_any pw ph a c n xs hn sw sh as' cs ns bits hbn _ (by omega) ((hr.below (Nat.le_refl _) hB).mono hB.size) (by omega) ((hrs.below (Nat.le_refl _) hB).mono hB.size)
      rw [hSP.out] at hcall
      refine hcall.mono ?_
      clear hcall
      rintro e V9 ⟨⟨v, hev, sl, hvl, hrow⟩, hb⟩
      have rP : V9.ownsRow w.heap.size 3 1 sl n ((P).map (Value.int .i64)) := row_base (row_len (k := (P).length) hlP.out hrow) hB.size
      obtain ⟨srPa, srPc, rfl⟩ := row_slice rP
      have he : e = .returned (.tuple #[.agg #[.int .i64 pw, .int .i64 ph, .slice srPa n srPc], .int .i64 0]) := by rw [hev, hvl]
      subst he
      clear hrow hev hvl
      clear m0 m1 m2 t0 t1 t2 xa0 xa1 xa2 fxa0 fxa1 fxa2 xb0 xb1 xb2 fxb0 fxb1 fxb2 xc0 xc1 xc2 fxc0 fxc1 fxc2
      replace ka := ka.below hb ka.lt
      replace ks := ks.below hb ks.lt
      replace kA := kA.below hb kA.lt
      replace kB := kB.below hb kB.lt
      replace kC := kC.below hb kC.lt
      replace rA := row_below rA hb
      replace rB := row_below rB hb
      replace rC := row_below rC hb
      replace hB := hB.trans (hb.mono hB.size)
      have m0 := ka.cell (i := 0) rfl
      have m1 := ka.cell (i := 1) rfl
      have m2 := ka.cell (i := 2) rfl
      have t0 := ks.cell (i := 0) rfl
      have t1 := ks.cell (i := 1) rfl
      have t2 := ks.cell (i := 2) rfl
      have xa0 := kA.cell (i := 0) rfl
      have xa1 := kA.cell (i := 1) rfl
      have xa2 := kA.cell (i := 2) rfl
      have fxa0 := kA.frozen 0
      have fxa1 := kA.frozen 1
      have fxa2 := kA.frozen 2
      have xb0 := kB.cell (i := 0) rfl
      have xb1 := kB.cell (i := 1) rfl
      have xb2 := kB.cell (i := 2) rfl
      have fxb0 := kB.frozen 0
      have fxb1 := kB.frozen 1
      have fxb2 := kB.frozen 2
      have xc0 := kC.cell (i := 0) rfl
      have xc1 := kC.cell (i := 1) rfl
      have xc2 := kC.cell (i := 2) rfl
      have fxc0 := kC.frozen 0
      have fxc1 := kC.frozen 1
      have fxc2 := kC.frozen 2
      clear hb
      obtain ⟨V10, hW⟩ : ∃ V10, V9.alloc (.cells #[.int .i64 pw, .int .i64 ph, .slice srPa n srPc] 24) = V10 := ⟨_, rfl⟩
      obtain ⟨bkP, hbx⟩ : ∃ bkP, V9.heap.size = bkP := ⟨_, rfl⟩
      have kP := Blk.new V9 24 #[.int .i64 pw, .int .i64 ph, .slice srPa n srPc]
      rw [hW, hbx] at kP
      have hb : Below V9.heap.size V9 V10 := alloc_below hW
      have ka' := ka.below hb ka.lt
      have lkakP := ka.lt
      rw [hbx] at lkakP
      have ks' := ks.below hb ks.lt
      have lkskP := ks.lt
      rw [hbx] at lkskP
      have kA' := kA.below hb kA.lt
      have lkAkP := kA.lt
      rw [hbx] at lkAkP
      have kB' := kB.below hb kB.lt
      have lkBkP := kB.lt
      rw [hbx] at lkBkP
      have kC' := kC.below hb kC.lt
      have lkCkP := kC.lt
      rw [hbx] at lkCkP
      have m0' := ka'.cell (i := 0) rfl
      have m1' := ka'.cell (i := 1) rfl
      have m2' := ka'.cell (i := 2) rfl
      have t0' := ks'.cell (i := 0) rfl
      have t1' := ks'.cell (i := 1) rfl
      have t2' := ks'.cell (i := 2) rfl
      have xa0' := kA'.cell (i := 0) rfl
      have xa1' := kA'.cell (i := 1) rfl
      have xa2' := kA'.cell (i := 2) rfl
      have fxa0' := kA'.frozen 0
      have fxa1' := kA'.frozen 1
      have fxa2' := kA'.frozen 2
      have xb0' := kB'.cell (i := 0) rfl
      have xb1' := kB'.cell (i := 1) rfl
      have xb2' := kB'.cell (i := 2) rfl
      have fxb0' := kB'.frozen 0
      have fxb1' := kB'.frozen 1
      have fxb2' := kB'.frozen 2
      have xc0' := kC'.cell (i := 0) rfl
      have xc1' := kC'.cell (i := 1) rfl
      have xc2' := kC'.cell (i := 2) rfl
      have fxc0' := kC'.frozen 0
      have fxc1' := kC'.frozen 1
      have fxc2' := kC'.frozen 2
      have xp0 := kP.cell (i := 0) rfl
      have xp1 := kP.cell (i := 1) rfl
      have xp2 := kP.cell (i := 2) rfl
      have fxp0 := kP.frozen 0
      have fxp1 := kP.frozen 1
      have fxp2 := kP.frozen 2
      go_wp2_with fail
      clear hW
      clear hbx
      clear m0 m1 m2 t0 t1 t2 xa0 xa1 xa2 fxa0 fxa1 fxa2 xb0 xb1 xb2 fxb0 fxb1 fxb2 xc0 xc1 xc2 fxc0 fxc1 fxc2
      clear m0' m1' m2' t0' t1' t2' xa0' xa1' xa2' fxa0' fxa1' fxa2' xb0' xb1' xb2' fxb0' fxb1' fxb2' xc0' xc1' xc2' fxc0' fxc1' fxc2'
      replace ka := ka'
      clear ka'
      replace ks := ks'
      clear ks'
      replace kA := kA'
      clear kA'
      replace kB := kB'
      clear kB'
      replace kC := kC'
      clear kC'
      have m0 := ka.cell (i := 0) rfl
      have m1 := ka.cell (i := 1) rfl
      have m2 := ka.cell (i := 2) rfl
      have t0 := ks.cell (i := 0) rfl
      have t1 := ks.cell (i := 1) rfl
      have t2 := ks.cell (i := 2) rfl
      have xa0 := kA.cell (i := 0) rfl
      have xa1 := kA.cell (i := 1) rfl
      have xa2 := kA.cell (i := 2) rfl
      have fxa0 := kA.frozen 0
      have fxa1 := kA.frozen 1
      have fxa2 := kA.frozen 2
      have xb0 := kB.cell (i := 0) rfl
      have xb1 := kB.cell (i := 1) rfl
      have xb2 := kB.cell (i := 2) rfl
      have fxb0 := kB.frozen 0
      have fxb1 := kB.frozen 1
      have fxb2 := kB.frozen 2
      have xc0 := kC.cell (i := 0) rfl
      have xc1 := kC.cell (i := 1) rfl
      have xc2 := kC.cell (i := 2) rfl
      have fxc0 := kC.frozen 0
      have fxc1 := kC.frozen 1
      have fxc2 := kC.frozen 2
      replace rA := row_below rA hb
      replace rB := row_below rB hb
      replace rC := row_below rC hb
      replace rP := row_below rP hb
      replace hB := hB.trans (hb.mono hB.size)
      clear hb
      have hcall := Erode_any pw ph srPa srPc n P hlP sw sh as' cs ns bits hbn _ (by omega) (row_rd' hlP.out rP) (by omega) ((hrs.below (Nat.le_refl _) hB).mono hB.size)
      rw [hSQ.out] at hcall
      refine hcall.mono ?_
      clear hcall
      rintro e V11 ⟨⟨v, hev, sl, hvl, hrow⟩, hb⟩
      have rQ : V11.ownsRow w.heap.size 3 1 sl n ((Q).map (Value.int .i64)) := row_base (row_len (k := (Q).length) hlQ.out hrow) hB.size
      obtain ⟨srQa, srQc, rfl⟩ := row_slice rQ
      have he : e = .returned (.tuple #[.agg #[.int .i64 pw, .int .i64 ph, .slice srQa n srQc], .int .i64 0]) := by rw [hev, hvl]
      subst he
      clear hrow hev hvl
      clear m0 m1 m2 t0 t1 t2 xa0 xa1 xa2 fxa0 fxa1 fxa2 xb0 xb1 xb2 fxb0 fxb1 fxb2 xc0 xc1 xc2 fxc0 fxc1 fxc2 xp0 xp1 xp2 fxp0 fxp1 fxp2
      replace ka := ka.below hb ka.lt
      replace ks := ks.below hb ks.lt
      replace kA := kA.below hb kA.lt
      replace kB := kB.below hb kB.lt
      replace kC := kC.below hb kC.lt
      replace kP := kP.below hb kP.lt
      replace rA := row_below rA hb
      replace rB := row_below rB hb
      replace rC := row_below rC hb
      replace rP := row_below rP hb
      replace hB := hB.trans (hb.mono hB.size)
      have m0 := ka.cell (i := 0) rfl
      have m1 := ka.cell (i := 1) rfl
      have m2 := ka.cell (i := 2) rfl
      have t0 := ks.cell (i := 0) rfl
      have t1 := ks.cell (i := 1) rfl
      have t2 := ks.cell (i := 2) rfl
      have xa0 := kA.cell (i := 0) rfl
      have xa1 := kA.cell (i := 1) rfl
      have xa2 := kA.cell (i := 2) rfl
      have fxa0 := kA.frozen 0
      have fxa1 := kA.frozen 1
      have fxa2 := kA.frozen 2
      have xb0 := kB.cell (i := 0) rfl
      have xb1 := kB.cell (i := 1) rfl
      have xb2 := kB.cell (i := 2) rfl
      have fxb0 := kB.frozen 0
      have fxb1 := kB.frozen 1
      have fxb2 := kB.frozen 2
      have xc0 := kC.cell (i := 0) rfl
      have xc1 := kC.cell (i := 1) rfl
      have xc2 := kC.cell (i := 2) rfl
      have fxc0 := kC.frozen 0
      have fxc1 := kC.frozen 1
      have fxc2 := kC.frozen 2
      have xp0 := kP.cell (i := 0) rfl
      have xp1 := kP.cell (i := 1) rfl
      have xp2 := kP.cell (i := 2) rfl
      have fxp0 := kP.frozen 0
      have fxp1 := kP.frozen 1
      have fxp2 := kP.frozen 2
      clear hb
      obtain ⟨V12, hW⟩ : ∃ V12, V11.alloc (.cells #[.int .i64 pw, .int .i64 ph, .slice srQa n srQc] 24) = V12 := ⟨_, rfl⟩
      obtain ⟨bkQ, hbx⟩ : ∃ bkQ, V11.heap.size = bkQ := ⟨_, rfl⟩
      have kQ := Blk.new V11 24 #[.int .i64 pw, .int .i64 ph, .slice srQa n srQc]
      rw [hW, hbx] at kQ
      have hb : Below V11.heap.size V11 V12 := alloc_below hW
      have ka' := ka.below hb ka.lt
      have lkakQ := ka.lt
      rw [hbx] at lkakQ
      have ks' := ks.below hb ks.lt
      have lkskQ := ks.lt
      rw [hbx] at lkskQ
      have kA' := kA.below hb kA.lt
      have lkAkQ := kA.lt
      rw [hbx] at lkAkQ
      have kB' := kB.below hb kB.lt
      have lkBkQ := kB.lt
      rw [hbx] at lkBkQ
      have kC' := kC.below hb kC.lt
      have lkCkQ := kC.lt
      rw [hbx] at lkCkQ
      have kP' := kP.below hb kP.lt
      have lkPkQ := kP.lt
      rw [hbx] at lkPkQ
      have m0' := ka'.cell (i := 0) rfl
      have m1' := ka'.cell (i := 1) rfl
      have m2' := ka'.cell (i := 2) rfl
      have t0' := ks'.cell (i := 0) rfl
      have t1' := ks'.cell (i := 1) rfl
      have t2' := ks'.cell (i := 2) rfl
      have xa0' := kA'.cell (i := 0) rfl
      have xa1' := kA'.cell (i := 1) rfl
      have xa2' := kA'.cell (i := 2) rfl
      have fxa0' := kA'.frozen 0
      have fxa1' := kA'.frozen 1
      have fxa2' := kA'.frozen 2
      have xb0' := kB'.cell (i := 0) rfl
      have xb1' := kB'.cell (i := 1) rfl
      have xb2' := kB'.cell (i := 2) rfl
      have fxb0' := kB'.frozen 0
      have fxb1' := kB'.frozen 1
      have fxb2' := kB'.frozen 2
      have xc0' := kC'.cell (i := 0) rfl
      have xc1' := kC'.cell (i := 1) rfl
      have xc2' := kC'.cell (i := 2) rfl
      have fxc0' := kC'.frozen 0
      have fxc1' := kC'.frozen 1
      have fxc2' := kC'.frozen 2
      have xp0' := kP'.cell (i := 0) rfl
      have xp1' := kP'.cell (i := 1) rfl
      have xp2' := kP'.cell (i := 2) rfl
      have fxp0' := kP'.frozen 0
      have fxp1' := kP'.frozen 1
      have fxp2' := kP'.frozen 2
      have xq0 := kQ.cell (i := 0) rfl
      have xq1 := kQ.cell (i := 1) rfl
      have xq2 := kQ.cell (i := 2) rfl
      have fxq0 := kQ.frozen 0
      have fxq1 := kQ.frozen 1
      have fxq2 := kQ.frozen 2
      go_wp2_with fail
      clear hW
      clear hbx
      clear m0 m1 m2 t0 t1 t2 xa0 xa1 xa2 fxa0 fxa1 fxa2 xb0 xb1 xb2 fxb0 fxb1 fxb2 xc0 xc1 xc2 fxc0 fxc1 fxc2 xp0 xp1 xp2 fxp0 fxp1 fxp2
      clear m0' m1' m2' t0' t1' t2' xa0' xa1' xa2' fxa0' fxa1' fxa2' xb0' xb1' xb2' fxb0' fxb1' fxb2' xc0' xc1' xc2' fxc0' fxc1' fxc2' xp0' xp1' xp2' fxp0' fxp1' fxp2'
      replace ka := ka'
      clear ka'
      replace ks := ks'
      clear ks'
      replace kA := kA'
      clear kA'
      replace kB := kB'
      clear kB'
      replace kC := kC'
      clear kC'
      replace kP := kP'
      clear kP'
      have m0 := ka.cell (i := 0) rfl
      have m1 := ka.cell (i := 1) rfl
      have m2 := ka.cell (i := 2) rfl
      have t0 := ks.cell (i := 0) rfl
      have t1 := ks.cell (i := 1) rfl
      have t2 := ks.cell (i := 2) rfl
      have xa0 := kA.cell (i := 0) rfl
      have xa1 := kA.cell (i := 1) rfl
      have xa2 := kA.cell (i := 2) rfl
      have fxa0 := kA.frozen 0
      have fxa1 := kA.frozen 1
      have fxa2 := kA.frozen 2
      have xb0 := kB.cell (i := 0) rfl
      have xb1 := kB.cell (i := 1) rfl
      have xb2 := kB.cell (i := 2) rfl
      have fxb0 := kB.frozen 0
      have fxb1 := kB.frozen 1
      have fxb2 := kB.frozen 2
      have xc0 := kC.cell (i := 0) rfl
      have xc1 := kC.cell (i := 1) rfl
      have xc2 := kC.cell (i := 2) rfl
      have fxc0 := kC.frozen 0
      have fxc1 := kC.frozen 1
      have fxc2 := kC.frozen 2
      have xp0 := kP.cell (i := 0) rfl
      have xp1 := kP.cell (i := 1) rfl
      have xp2 := kP.cell (i := 2) rfl
      have fxp0 := kP.frozen 0
      have fxp1 := kP.frozen 1
      have fxp2 := kP.frozen 2
      replace rA := row_below rA hb
      replace rB := row_below rB hb
      replace rC := row_below rC hb
      replace rP := row_below rP hb
      replace rQ := row_below rQ hb
      replace hB := hB.trans (hb.mono hB.size)
      clear hb
      have hcall := Dilate_any pw ph srQa srQc n Q hlQ sw sh as' cs ns bits hbn _ (by omega) (row_rd' hlQ.out rQ) (by omega) ((hrs.below (Nat.le_refl _) hB).mono hB.size)
      rw [hSR.out] at hcall
      refine hcall.mono ?_
      clear hcall
      rintro e V13 ⟨⟨v, hev, sl, hvl, hrow⟩, hb⟩
      have rR : V13.ownsRow w.heap.size 3 1 sl n ((P).map (Value.int .i64)) := row_base (row_len (k := (P).length) hlP.out hrow) hB.size
      obtain ⟨srRa, srRc, rfl⟩ := row_slice rR
      have he : e = .returned (.tuple #[.agg #[.int .i64 pw, .int .i64 ph, .slice srRa n srRc], .int .i64 0]) := by rw [hev, hvl]
      subst he
      clear hrow hev hvl
      clear m0 m1 m2 t0 t1 t2 xa0 xa1 xa2 fxa0 fxa1 fxa2 xb0 xb1 xb2 fxb0 fxb1 fxb2 xc0 xc1 xc2 fxc0 fxc1 fxc2 xp0 xp1 xp2 fxp0 fxp1 fxp2 xq0 xq1 xq2 fxq0 fxq1 fxq2
      replace ka := ka.below hb ka.lt
      replace ks := ks.below hb ks.lt
      replace kA := kA.below hb kA.lt
      replace kB := kB.below hb kB.lt
      replace kC := kC.below hb kC.lt
      replace kP := kP.below hb kP.lt
      replace kQ := kQ.below hb kQ.lt
      replace rA := row_below rA hb
      replace rB := row_below rB hb
      replace rC := row_below rC hb
      replace rP := row_below rP hb
      replace rQ := row_below rQ hb
      replace hB := hB.trans (hb.mono hB.size)
      have m0 := ka.cell (i := 0) rfl
      have m1 := ka.cell (i := 1) rfl
      have m2 := ka.cell (i := 2) rfl
      have t0 := ks.cell (i := 0) rfl
      have t1 := ks.cell (i := 1) rfl
      have t2 := ks.cell (i := 2) rfl
      have xa0 := kA.cell (i := 0) rfl
      have xa1 := kA.cell (i := 1) rfl
      have xa2 := kA.cell (i := 2) rfl
      have fxa0 := kA.frozen 0
      have fxa1 := kA.frozen 1
      have fxa2 := kA.frozen 2
      have xb0 := kB.cell (i := 0) rfl
      have xb1 := kB.cell (i := 1) rfl
      have xb2 := kB.cell (i := 2) rfl
      have fxb0 := kB.frozen 0
      have fxb1 := kB.frozen 1
      have fxb2 := kB.frozen 2
      have xc0 := kC.cell (i := 0) rfl
      have xc1 := kC.cell (i := 1) rfl
      have xc2 := kC.cell (i := 2) rfl
      have fxc0 := kC.frozen 0
      have fxc1 := kC.frozen 1
      have fxc2 := kC.frozen 2
      have xp0 := kP.cell (i := 0) rfl
      have xp1 := kP.cell (i := 1) rfl
      have xp2 := kP.cell (i := 2) rfl
      have fxp0 := kP.frozen 0
      have fxp1 := kP.frozen 1
      have fxp2 := kP.frozen 2
      have xq0 := kQ.cell (i := 0) rfl
      have xq1 := kQ.cell (i := 1) rfl
      have xq2 := kQ.cell (i := 2) rfl
      have fxq0 := kQ.frozen 0
      have fxq1 := kQ.frozen 1
      have fxq2 := kQ.frozen 2
      clear hb
      obtain ⟨V14, hW⟩ : ∃ V14, V13.alloc (.cells #[.int .i64 pw, .int .i64 ph, .slice srRa n srRc] 24) = V14 := ⟨_, rfl⟩
      obtain ⟨bkR, hbx⟩ : ∃ bkR, V13.heap.size = bkR := ⟨_, rfl⟩
      have kR := Blk.new V13 24 #[.int .i64 pw, .int .i64 ph, .slice srRa n srRc]
      rw [hW, hbx] at kR
      have hb : Below V13.heap.size V13 V14 := alloc_below hW
      have ka' := ka.below hb ka.lt
      have lkakR := ka.lt
      rw [hbx] at lkakR
      have ks' := ks.below hb ks.lt
      have lkskR := ks.lt
      rw [hbx] at lkskR
      have kA' := kA.below hb kA.lt
      have lkAkR := kA.lt
      rw [hbx] at lkAkR
      have kB' := kB.below hb kB.lt
      have lkBkR := kB.lt
      rw [hbx] at lkBkR
      have kC' := kC.below hb kC.lt
      have lkCkR := kC.lt
      rw [hbx] at lkCkR
      have kP' := kP.below hb kP.lt
      have lkPkR := kP.lt
      rw [hbx] at lkPkR
      have kQ' := kQ.below hb kQ.lt
      have lkQkR := kQ.lt
      rw [hbx] at lkQkR
      have m0' := ka'.cell (i := 0) rfl
      have m1' := ka'.cell (i := 1) rfl
      have m2' := ka'.cell (i := 2) rfl
      have t0' := ks'.cell (i := 0) rfl
      have t1' := ks'.cell (i := 1) rfl
      have t2' := ks'.cell (i := 2) rfl
      have xa0' := kA'.cell (i := 0) rfl
      have xa1' := kA'.cell (i := 1) rfl
      have xa2' := kA'.cell (i := 2) rfl
      have fxa0' := kA'.frozen 0
      have fxa1' := kA'.frozen 1
      have fxa2' := kA'.frozen 2
      have xb0' := kB'.cell (i := 0) rfl
      have xb1' := kB'.cell (i := 1) rfl
      have xb2' := kB'.cell (i := 2) rfl
      have fxb0' := kB'.frozen 0
      have fxb1' := kB'.frozen 1
      have fxb2' := kB'.frozen 2
      have xc0' := kC'.cell (i := 0) rfl
      have xc1' := kC'.cell (i := 1) rfl
      have xc2' := kC'.cell (i := 2) rfl
      have fxc0' := kC'.frozen 0
      have fxc1' := kC'.frozen 1
      have fxc2' := kC'.frozen 2
      have xp0' := kP'.cell (i := 0) rfl
      have xp1' := kP'.cell (i := 1) rfl
      have xp2' := kP'.cell (i := 2) rfl
      have fxp0' := kP'.frozen 0
      have fxp1' := kP'.frozen 1
      have fxp2' := kP'.frozen 2
      have xq0' := kQ'.cell (i := 0) rfl
      have xq1' := kQ'.cell (i := 1) rfl
      have xq2' := kQ'.cell (i := 2) rfl
      have fxq0' := kQ'.frozen 0
      have fxq1' := kQ'.frozen 1
      have fxq2' := kQ'.frozen 2
      have xr0 := kR.cell (i := 0) rfl
      have xr1 := kR.cell (i := 1) rfl
      have xr2 := kR.cell (i := 2) rfl
      have fxr0 := kR.frozen 0
      have fxr1 := kR.frozen 1
      have fxr2 := kR.frozen 2
      go_wp2_with fail
      clear hW
      clear hbx
      clear m0 m1 m2 t0 t1 t2 xa0 xa1 xa2 fxa0 fxa1 fxa2 xb0 xb1 xb2 fxb0 fxb1 fxb2 xc0 xc1 xc2 fxc0 fxc1 fxc2 xp0 xp1 xp2 fxp0 fxp1 fxp2 xq0 xq1 xq2 fxq0 fxq1 fxq2
      clear m0' m1' m2' t0' t1' t2' xa0' xa1' xa2' fxa0' fxa1' fxa2' xb0' xb1' xb2' fxb0' fxb1' fxb2' xc0' xc1' xc2' fxc0' fxc1' fxc2' xp0' xp1' xp2' fxp0' fxp1' fxp2' xq0' xq1' xq2' fxq0' fxq1' fxq2'
      replace ka := ka'
      clear ka'
      replace ks := ks'
      clear ks'
      replace kA := kA'
      clear kA'
      replace kB := kB'
      clear kB'
      replace kC := kC'
      clear kC'
      replace kP := kP'
      clear kP'
      replace kQ := kQ'
      clear kQ'
      have m0 := ka.cell (i := 0) rfl
      have m1 := ka.cell (i := 1) rfl
      have m2 := ka.cell (i := 2) rfl
      have t0 := ks.cell (i := 0) rfl
      have t1 := ks.cell (i := 1) rfl
      have t2 := ks.cell (i := 2) rfl
      have xa0 := kA.cell (i := 0) rfl
      have xa1 := kA.cell (i := 1) rfl
      have xa2 := kA.cell (i := 2) rfl
      have fxa0 := kA.frozen 0
      have fxa1 := kA.frozen 1
      have fxa2 := kA.frozen 2
      have xb0 := kB.cell (i := 0) rfl
      have xb1 := kB.cell (i := 1) rfl
      have xb2 := kB.cell (i := 2) rfl
      have fxb0 := kB.frozen 0
      have fxb1 := kB.frozen 1
      have fxb2 := kB.frozen 2
      have xc0 := kC.cell (i := 0) rfl
      have xc1 := kC.cell (i := 1) rfl
      have xc2 := kC.cell (i := 2) rfl
      have fxc0 := kC.frozen 0
      have fxc1 := kC.frozen 1
      have fxc2 := kC.frozen 2
      have xp0 := kP.cell (i := 0) rfl
      have xp1 := kP.cell (i := 1) rfl
      have xp2 := kP.cell (i := 2) rfl
      have fxp0 := kP.frozen 0
      have fxp1 := kP.frozen 1
      have fxp2 := kP.frozen 2
      have xq0 := kQ.cell (i := 0) rfl
      have xq1 := kQ.cell (i := 1) rfl
      have xq2 := kQ.cell (i := 2) rfl
      have fxq0 := kQ.frozen 0
      have fxq1 := kQ.frozen 1
      have fxq2 := kQ.frozen 2
      replace rA := row_below rA hb
      replace rB := row_below rB hb
      replace rC := row_below rC hb
      replace rP := row_below rP hb
      replace rQ := row_below rQ hb
      replace rR := row_below rR hb
      replace hB := hB.trans (hb.mono hB.size)
      clear hb
      refine (below_any pw ph srBa a srBc c n B xs hlB hn true hb1 hn0 _ (by omega) (row_rd' hlB.out rB) ((hr.below (Nat.le_refl _) hB).mono hB.size)).mono ?_
      rintro e V15 ⟨rfl, hb⟩
      clear m0 m1 m2 t0 t1 t2 xa0 xa1 xa2 fxa0 fxa1 fxa2 xb0 xb1 xb2 fxb0 fxb1 fxb2 xc0 xc1 xc2 fxc0 fxc1 fxc2 xp0 xp1 xp2 fxp0 fxp1 fxp2 xq0 xq1 xq2 fxq0 fxq1 fxq2 xr0 xr1 xr2 fxr0 fxr1 fxr2
      replace ka := ka.below hb ka.lt
      replace ks := ks.below hb ks.lt
      replace kA := kA.below hb kA.lt
      replace kB := kB.below hb kB.lt
      replace kC := kC.below hb kC.lt
      replace kP := kP.below hb kP.lt
      replace kQ := kQ.below hb kQ.lt
      replace kR := kR.below hb kR.lt
      replace rA := row_below rA hb
      replace rB := row_below rB hb
      replace rC := row_below rC hb
      replace rP := row_below rP hb
      replace rQ := row_below rQ hb
      replace rR := row_below rR hb
      replace hB := hB.trans (hb.mono hB.size)
      have m0 := ka.cell (i := 0) rfl
      have m1 := ka.cell (i := 1) rfl
      have m2 := ka.cell (i := 2) rfl
      have t0 := ks.cell (i := 0) rfl
      have t1 := ks.cell (i := 1) rfl
      have t2 := ks.cell (i := 2) rfl
      have xa0 := kA.cell (i := 0) rfl
      have xa1 := kA.cell (i := 1) rfl
      have xa2 := kA.cell (i := 2) rfl
      have fxa0 := kA.frozen 0
      have fxa1 := kA.frozen 1
      have fxa2 := kA.frozen 2
      have xb0 := kB.cell (i := 0) rfl
      have xb1 := kB.cell (i := 1) rfl
      have xb2 := kB.cell (i := 2) rfl
      have fxb0 := kB.frozen 0
      have fxb1 := kB.frozen 1
      have fxb2 := kB.frozen 2
      have xc0 := kC.cell (i := 0) rfl
      have xc1 := kC.cell (i := 1) rfl
      have xc2 := kC.cell (i := 2) rfl
      have fxc0 := kC.frozen 0
      have fxc1 := kC.frozen 1
      have fxc2 := kC.frozen 2
      have xp0 := kP.cell (i := 0) rfl
      have xp1 := kP.cell (i := 1) rfl
      have xp2 := kP.cell (i := 2) rfl
      have fxp0 := kP.frozen 0
      have fxp1 := kP.frozen 1
      have fxp2 := kP.frozen 2
      have xq0 := kQ.cell (i := 0) rfl
      have xq1 := kQ.cell (i := 1) rfl
      have xq2 := kQ.cell (i := 2) rfl
      have fxq0 := kQ.frozen 0
      have fxq1 := kQ.frozen 1
      have fxq2 := kQ.frozen 2
      have xr0 := kR.cell (i := 0) rfl
      have xr1 := kR.cell (i := 1) rfl
      have xr2 := kR.cell (i := 2) rfl
      have fxr0 := kR.frozen 0
      have fxr1 := kR.frozen 1
      have fxr2 := kR.frozen 2
      clear hb
      go_wp2_with fail
      refine (below_any pw ph a srQa c srQc n xs Q hn hlQ true hb2 hn0 _ (by omega) ((hr.below (Nat.le_refl _) hB).mono hB.size) (row_rd' hlQ.out rQ)).mono ?_
      rintro e V16 ⟨rfl, hb⟩
      clear m0 m1 m2 t0 t1 t2 xa0 xa1 xa2 fxa0 fxa1 fxa2 xb0 xb1 xb2 fxb0 fxb1 fxb2 xc0 xc1 xc2 fxc0 fxc1 fxc2 xp0 xp1 xp2 fxp0 fxp1 fxp2 xq0 xq1 xq2 fxq0 fxq1 fxq2 xr0 xr1 xr2 fxr0 fxr1 fxr2
      replace ka := ka.below hb ka.lt
      replace ks := ks.below hb ks.lt
      replace kA := kA.below hb kA.lt
      replace kB := kB.below hb kB.lt
      replace kC := kC.below hb kC.lt
      replace kP := kP.below hb kP.lt
      replace kQ := kQ.below hb kQ.lt
      replace kR := kR.below hb kR.lt
      replace rA := row_below rA hb
      replace rB := row_below rB hb
      replace rC := row_below rC hb
      replace rP := row_below rP hb
      replace rQ := row_below rQ hb
      replace rR := row_below rR hb
      replace hB := hB.trans (hb.mono hB.size)
      have m0 := ka.cell (i := 0) rfl
      have m1 := ka.cell (i := 1) rfl
      have m2 := ka.cell (i := 2) rfl
      have t0 := ks.cell (i := 0) rfl
      have t1 := ks.cell (i := 1) rfl
      have t2 := ks.cell (i := 2) rfl
      have xa0 := kA.cell (i := 0) rfl
      have xa1 := kA.cell (i := 1) rfl
      have xa2 := kA.cell (i := 2) rfl
      have fxa0 := kA.frozen 0
      have fxa1 := kA.frozen 1
      have fxa2 := kA.frozen 2
      have xb0 := kB.cell (i := 0) rfl
      have xb1 := kB.cell (i := 1) rfl
      have xb2 := kB.cell (i := 2) rfl
      have fxb0 := kB.frozen 0
      have fxb1 := kB.frozen 1
      have fxb2 := kB.frozen 2
      have xc0 := kC.cell (i := 0) rfl
      have xc1 := kC.cell (i := 1) rfl
      have xc2 := kC.cell (i := 2) rfl
      have fxc0 := kC.frozen 0
      have fxc1 := kC.frozen 1
      have fxc2 := kC.frozen 2
      have xp0 := kP.cell (i := 0) rfl
      have xp1 := kP.cell (i := 1) rfl
      have xp2 := kP.cell (i := 2) rfl
      have fxp0 := kP.frozen 0
      have fxp1 := kP.frozen 1
      have fxp2 := kP.frozen 2
      have xq0 := kQ.cell (i := 0) rfl
      have xq1 := kQ.cell (i := 1) rfl
      have xq2 := kQ.cell (i := 2) rfl
      have fxq0 := kQ.frozen 0
      have fxq1 := kQ.frozen 1
      have fxq2 := kQ.frozen 2
      have xr0 := kR.cell (i := 0) rfl
      have xr1 := kR.cell (i := 1) rfl
      have xr2 := kR.cell (i := 2) rfl
      have fxr0 := kR.frozen 0
      have fxr1 := kR.frozen 1
      have fxr2 := kR.frozen 2
      clear hb
      go_wp2_with fail
      refine (Same_eq pw ph srAa srCa srAc srCc n A hlA _ (by omega) (row_rd' hlA.out rA) (row_rd' hlA.out rC)).mono ?_
      rintro e V17 ⟨rfl, hb⟩
      clear m0 m1 m2 t0 t1 t2 xa0 xa1 xa2 fxa0 fxa1 fxa2 xb0 xb1 xb2 fxb0 fxb1 fxb2 xc0 xc1 xc2 fxc0 fxc1 fxc2 xp0 xp1 xp2 fxp0 fxp1 fxp2 xq0 xq1 xq2 fxq0 fxq1 fxq2 xr0 xr1 xr2 fxr0 fxr1 fxr2
      replace ka := ka.below hb ka.lt
      replace ks := ks.below hb ks.lt
      replace kA := kA.below hb kA.lt
      replace kB := kB.below hb kB.lt
      replace kC := kC.below hb kC.lt
      replace kP := kP.below hb kP.lt
      replace kQ := kQ.below hb kQ.lt
      replace kR := kR.below hb kR.lt
      replace rA := row_below rA hb
      replace rB := row_below rB hb
      replace rC := row_below rC hb
      replace rP := row_below rP hb
      replace rQ := row_below rQ hb
      replace rR := row_below rR hb
      replace hB := hB.trans (hb.mono hB.size)
      have m0 := ka.cell (i := 0) rfl
      have m1 := ka.cell (i := 1) rfl
      have m2 := ka.cell (i := 2) rfl
      have t0 := ks.cell (i := 0) rfl
      have t1 := ks.cell (i := 1) rfl
      have t2 := ks.cell (i := 2) rfl
      have xa0 := kA.cell (i := 0) rfl
      have xa1 := kA.cell (i := 1) rfl
      have xa2 := kA.cell (i := 2) rfl
      have fxa0 := kA.frozen 0
      have fxa1 := kA.frozen 1
      have fxa2 := kA.frozen 2
      have xb0 := kB.cell (i := 0) rfl
      have xb1 := kB.cell (i := 1) rfl
      have xb2 := kB.cell (i := 2) rfl
      have fxb0 := kB.frozen 0
      have fxb1 := kB.frozen 1
      have fxb2 := kB.frozen 2
      have xc0 := kC.cell (i := 0) rfl
      have xc1 := kC.cell (i := 1) rfl
      have xc2 := kC.cell (i := 2) rfl
      have fxc0 := kC.frozen 0
      have fxc1 := kC.frozen 1
      have fxc2 := kC.frozen 2
      have xp0 := kP.cell (i := 0) rfl
      have xp1 := kP.cell (i := 1) rfl
      have xp2 := kP.cell (i := 2) rfl
      have fxp0 := kP.frozen 0
      have fxp1 := kP.frozen 1
      have fxp2 := kP.frozen 2
      have xq0 := kQ.cell (i := 0) rfl
      have xq1 := kQ.cell (i := 1) rfl
      have xq2 := kQ.cell (i := 2) rfl
      have fxq0 := kQ.frozen 0
      have fxq1 := kQ.frozen 1
      have fxq2 := kQ.frozen 2
      have xr0 := kR.cell (i := 0) rfl
      have xr1 := kR.cell (i := 1) rfl
      have xr2 := kR.cell (i := 2) rfl
      have fxr0 := kR.frozen 0
      have fxr1 := kR.frozen 1
      have fxr2 := kR.frozen 2
      clear hb
      go_wp2_with fail
      refine (Same_eq pw ph srPa srRa srPc srRc n P hlP _ (by omega) (row_rd' hlP.out rP) (row_rd' hlP.out rR)).mono ?_
      rintro e V18 ⟨rfl, hb⟩
      clear m0 m1 m2 t0 t1 t2 xa0 xa1 xa2 fxa0 fxa1 fxa2 xb0 xb1 xb2 fxb0 fxb1 fxb2 xc0 xc1 xc2 fxc0 fxc1 fxc2 xp0 xp1 xp2 fxp0 fxp1 fxp2 xq0 xq1 xq2 fxq0 fxq1 fxq2 xr0 xr1 xr2 fxr0 fxr1 fxr2
      replace ka := ka.below hb ka.lt
      replace ks := ks.below hb ks.lt
      replace kA := kA.below hb kA.lt
      replace kB := kB.below hb kB.lt
      replace kC := kC.below hb kC.lt
      replace kP := kP.below hb kP.lt
      replace kQ := kQ.below hb kQ.lt
      replace kR := kR.below hb kR.lt
      replace rA := row_below rA hb
      replace rB := row_below rB hb
      replace rC := row_below rC hb
      replace rP := row_below rP hb
      replace rQ := row_below rQ hb
      replace rR := row_below rR hb
      replace hB := hB.trans (hb.mono hB.size)
      have m0 := ka.cell (i := 0) rfl
      have m1 := ka.cell (i := 1) rfl
      have m2 := ka.cell (i := 2) rfl
      have t0 := ks.cell (i := 0) rfl
      have t1 := ks.cell (i := 1) rfl
      have t2 := ks.cell (i := 2) rfl
      have xa0 := kA.cell (i := 0) rfl
      have xa1 := kA.cell (i := 1) rfl
      have xa2 := kA.cell (i := 2) rfl
      have fxa0 := kA.frozen 0
      have fxa1 := kA.frozen 1
      have fxa2 := kA.frozen 2
      have xb0 := kB.cell (i := 0) rfl
      have xb1 := kB.cell (i := 1) rfl
      have xb2 := kB.cell (i := 2) rfl
      have fxb0 := kB.frozen 0
      have fxb1 := kB.frozen 1
      have fxb2 := kB.frozen 2
      have xc0 := kC.cell (i := 0) rfl
      have xc1 := kC.cell (i := 1) rfl
      have xc2 := kC.cell (i := 2) rfl
      have fxc0 := kC.frozen 0
      have fxc1 := kC.frozen 1
      have fxc2 := kC.frozen 2
      have xp0 := kP.cell (i := 0) rfl
      have xp1 := kP.cell (i := 1) rfl
      have xp2 := kP.cell (i := 2) rfl
      have fxp0 := kP.frozen 0
      have fxp1 := kP.frozen 1
      have fxp2 := kP.frozen 2
      have xq0 := kQ.cell (i := 0) rfl
      have xq1 := kQ.cell (i := 1) rfl
      have xq2 := kQ.cell (i := 2) rfl
      have fxq0 := kQ.frozen 0
      have fxq1 := kQ.frozen 1
      have fxq2 := kQ.frozen 2
      have xr0 := kR.cell (i := 0) rfl
      have xr1 := kR.cell (i := 1) rfl
      have xr2 := kR.cell (i := 2) rfl
      have fxr0 := kR.frozen 0
      have fxr1 := kR.frozen 1
      have fxr2 := kR.frozen 2
      clear hb
      go_wp2_with fail
      go_ret
      exact ⟨rfl, hB⟩

end Go.Proofs.Ytjglfeonoiljlaa
