/- The walk of the law ImageLattice: it returns true, and nothing that lay has turned. -/
import Derived.Test.YtjglfeonoiljlaaLawOpened
namespace Go.Proofs.Ytjglfeonoiljlaa
open Go Go.RowKit Go.Shelf
set_option linter.unusedVariables false
set_option linter.unusedSimpArgs false

theorem zipS_ok {pw ph : Nat} {xs ys : List Int} {how : Int} (hx : vld pw ph xs = true) (hy : vld pw ph ys = true) (h1 : 1 ≤ how) (h2 : how ≤ 6) : zipS pw ph xs pw ph ys how = { w := pw, h := ph, px := zipI pw ph xs ys how, err := 0 } := by
  unfold zipS
  rw [if_pos hx, if_pos hy, if_pos (by simp), if_pos (by simp; omega)]
  rfl

set_option maxRecDepth 100000 in
set_option maxHeartbeats 8000000 in
theorem law_lattice (iw ih : Int) (a : Option Addr) (c n : Nat) (xs : List Int) (hn : Hid (xs.length = n)) (jw jh : Int) (a' : Option Addr) (c' m : Nat) (ys : List Int) (hn' : Hid (ys.length = m)) (sw sh : Int) (as' : Option Addr) (cs ns : Nat) (bits : List Bool) (hbn : Hid (bits.length = ns)) (w : World)
    (hm : n ≤ 9223372036854775807) (hr : Rd w.heap.size w a xs) (hm' : m ≤ 9223372036854775807) (hr' : Rd w.heap.size w a' ys) (hms : ns ≤ 9223372036854775807) (hrs : RdB w.heap.size w as' bits) :
    Calls Try.prog 20 #[imv iw ih a n c, imv jw jh a' m c', imv sw sh as' ns cs] w fun e w' => e = .returned (.bool true) ∧ Below w.heap.size w w' := by
  obtain ⟨zv, hzv0⟩ : ∃ v, sizedB iw ih xs jw jh ys = v := ⟨_, rfl⟩
  have hzv := Lib.hid hzv0
  obtain ⟨sv, hsv0⟩ : ∃ v, shapeOk sw sh bits = v := ⟨_, rfl⟩
  have hsv := Lib.hid hsv0
  clear hzv0 hsv0
  cases zv with
  | false =>
    have hB : Below w.heap.size w (((w.alloc (.cells #[.int .i64 iw, .int .i64 ih, .slice a n c] 24)).alloc (.cells #[.int .i64 jw, .int .i64 jh, .slice a' m c'] 24)).alloc (.cells #[.int .i64 sw, .int .i64 sh, .slice as' ns cs] 40)) := below_al (below_al (below_al (Below.refl _ _) _) _) _
    have ka := (((Blk.new w 24 #[.int .i64 iw, .int .i64 ih, .slice a n c]).alloc (.cells #[.int .i64 jw, .int .i64 jh, .slice a' m c'] 24)).alloc (.cells #[.int .i64 sw, .int .i64 sh, .slice as' ns cs] 40))
    have kb := ((Blk.new (w.alloc (.cells #[.int .i64 iw, .int .i64 ih, .slice a n c] 24)) 24 #[.int .i64 jw, .int .i64 jh, .slice a' m c']).alloc (.cells #[.int .i64 sw, .int .i64 sh, .slice as' ns cs] 40))
    have ks := (Blk.new ((w.alloc (.cells #[.int .i64 iw, .int .i64 ih, .slice a n c] 24)).alloc (.cells #[.int .i64 jw, .int .i64 jh, .slice a' m c'] 24)) 40 #[.int .i64 sw, .int .i64 sh, .slice as' ns cs])
    simp only [World.size_alloc] at kb ks
    obtain ⟨W0, hW⟩ : ∃ W, (((w.alloc (.cells #[.int .i64 iw, .int .i64 ih, .slice a n c] 24)).alloc (.cells #[.int .i64 jw, .int .i64 jh, .slice a' m c'] 24)).alloc (.cells #[.int .i64 sw, .int .i64 sh, .slice as' ns cs] 40)) = W := ⟨_, rfl⟩
    rw [hW] at hB ka kb ks
    have m0 := ka.cell (i := 0) rfl
    have m1 := ka.cell (i := 1) rfl
    have m2 := ka.cell (i := 2) rfl
    have s0 := kb.cell (i := 0) rfl
    have s1 := kb.cell (i := 1) rfl
    have s2 := kb.cell (i := 2) rfl
    have t0 := ks.cell (i := 0) rfl
    have t1 := ks.cell (i := 1) rfl
    have t2 := ks.cell (i := 2) rfl
    go_enter Try.func20, Try.ntmps20
    go_wp2_with fail
    clear hW
    refine (alive_any _).mono ?_
    rintro e V1 ⟨rfl, hb⟩
    clear m0 m1 m2 s0 s1 s2 t0 t1 t2
    replace ka := ka.below hb ka.lt
    replace kb := kb.below hb kb.lt
    replace ks := ks.below hb ks.lt
    replace hB := hB.trans (hb.mono hB.size)
    have m0 := ka.cell (i := 0) rfl
    have m1 := ka.cell (i := 1) rfl
    have m2 := ka.cell (i := 2) rfl
    have s0 := kb.cell (i := 0) rfl
    have s1 := kb.cell (i := 1) rfl
    have s2 := kb.cell (i := 2) rfl
    have t0 := ks.cell (i := 0) rfl
    have t1 := ks.cell (i := 1) rfl
    have t2 := ks.cell (i := 2) rfl
    clear hb
    go_wp2_with fail
    refine (sized_any iw ih a c n xs hn jw jh a' c' m ys hn' _ hzv _ (by omega) ((hr.below (Nat.le_refl _) hB).mono hB.size) (by omega) ((hr'.below (Nat.le_refl _) hB).mono hB.size)).mono ?_
    rintro e V2 ⟨rfl, hb⟩
    clear m0 m1 m2 s0 s1 s2 t0 t1 t2
    replace ka := ka.below hb ka.lt
    replace kb := kb.below hb kb.lt
    replace ks := ks.below hb ks.lt
    replace hB := hB.trans (hb.mono hB.size)
    have m0 := ka.cell (i := 0) rfl
    have m1 := ka.cell (i := 1) rfl
    have m2 := ka.cell (i := 2) rfl
    have s0 := kb.cell (i := 0) rfl
    have s1 := kb.cell (i := 1) rfl
    have s2 := kb.cell (i := 2) rfl
    have t0 := ks.cell (i := 0) rfl
    have t1 := ks.cell (i := 1) rfl
    have t2 := ks.cell (i := 2) rfl
    clear hb
    go_wp2_with fail
    go_ret
    exact ⟨rfl, hB⟩
  | true =>
    cases sv with
    | false =>
      have hB : Below w.heap.size w (((w.alloc (.cells #[.int .i64 iw, .int .i64 ih, .slice a n c] 24)).alloc (.cells #[.int .i64 jw, .int .i64 jh, .slice a' m c'] 24)).alloc (.cells #[.int .i64 sw, .int .i64 sh, .slice as' ns cs] 40)) := below_al (below_al (below_al (Below.refl _ _) _) _) _
      have ka := (((Blk.new w 24 #[.int .i64 iw, .int .i64 ih, .slice a n c]).alloc (.cells #[.int .i64 jw, .int .i64 jh, .slice a' m c'] 24)).alloc (.cells #[.int .i64 sw, .int .i64 sh, .slice as' ns cs] 40))
      have kb := ((Blk.new (w.alloc (.cells #[.int .i64 iw, .int .i64 ih, .slice a n c] 24)) 24 #[.int .i64 jw, .int .i64 jh, .slice a' m c']).alloc (.cells #[.int .i64 sw, .int .i64 sh, .slice as' ns cs] 40))
      have ks := (Blk.new ((w.alloc (.cells #[.int .i64 iw, .int .i64 ih, .slice a n c] 24)).alloc (.cells #[.int .i64 jw, .int .i64 jh, .slice a' m c'] 24)) 40 #[.int .i64 sw, .int .i64 sh, .slice as' ns cs])
      simp only [World.size_alloc] at kb ks
      obtain ⟨W0, hW⟩ : ∃ W, (((w.alloc (.cells #[.int .i64 iw, .int .i64 ih, .slice a n c] 24)).alloc (.cells #[.int .i64 jw, .int .i64 jh, .slice a' m c'] 24)).alloc (.cells #[.int .i64 sw, .int .i64 sh, .slice as' ns cs] 40)) = W := ⟨_, rfl⟩
      rw [hW] at hB ka kb ks
      have m0 := ka.cell (i := 0) rfl
      have m1 := ka.cell (i := 1) rfl
      have m2 := ka.cell (i := 2) rfl
      have s0 := kb.cell (i := 0) rfl
      have s1 := kb.cell (i := 1) rfl
      have s2 := kb.cell (i := 2) rfl
      have t0 := ks.cell (i := 0) rfl
      have t1 := ks.cell (i := 1) rfl
      have t2 := ks.cell (i := 2) rfl
      go_enter Try.func20, Try.ntmps20
      go_wp2_with fail
      clear hW
      refine (alive_any _).mono ?_
      rintro e V1 ⟨rfl, hb⟩
      clear m0 m1 m2 s0 s1 s2 t0 t1 t2
      replace ka := ka.below hb ka.lt
      replace kb := kb.below hb kb.lt
      replace ks := ks.below hb ks.lt
      replace hB := hB.trans (hb.mono hB.size)
      have m0 := ka.cell (i := 0) rfl
      have m1 := ka.cell (i := 1) rfl
      have m2 := ka.cell (i := 2) rfl
      have s0 := kb.cell (i := 0) rfl
      have s1 := kb.cell (i := 1) rfl
      have s2 := kb.cell (i := 2) rfl
      have t0 := ks.cell (i := 0) rfl
      have t1 := ks.cell (i := 1) rfl
      have t2 := ks.cell (i := 2) rfl
      clear hb
      go_wp2_with fail
      refine (sized_any iw ih a c n xs hn jw jh a' c' m ys hn' _ hzv _ (by omega) ((hr.below (Nat.le_refl _) hB).mono hB.size) (by omega) ((hr'.below (Nat.le_refl _) hB).mono hB.size)).mono ?_
      rintro e V2 ⟨rfl, hb⟩
      clear m0 m1 m2 s0 s1 s2 t0 t1 t2
      replace ka := ka.below hb ka.lt
      replace kb := kb.below hb kb.lt
      replace ks := ks.below hb ks.lt
      replace hB := hB.trans (hb.mono hB.size)
      have m0 := ka.cell (i := 0) rfl
      have m1 := ka.cell (i := 1) rfl
      have m2 := ka.cell (i := 2) rfl
      have s0 := kb.cell (i := 0) rfl
      have s1 := kb.cell (i := 1) rfl
      have s2 := kb.cell (i := 2) rfl
      have t0 := ks.cell (i := 0) rfl
      have t1 := ks.cell (i := 1) rfl
      have t2 := ks.cell (i := 2) rfl
      clear hb
      go_wp2_with fail
      refine (ValidShape_any sw sh as' cs ns bits hbn _ hsv _ (by omega) ((hrs.below (Nat.le_refl _) hB).mono hB.size)).mono ?_
      rintro e V3 ⟨rfl, hb⟩
      clear m0 m1 m2 s0 s1 s2 t0 t1 t2
      replace ka := ka.below hb ka.lt
      replace kb := kb.below hb kb.lt
      replace ks := ks.below hb ks.lt
      replace hB := hB.trans (hb.mono hB.size)
      have m0 := ka.cell (i := 0) rfl
      have m1 := ka.cell (i := 1) rfl
      have m2 := ka.cell (i := 2) rfl
      have s0 := kb.cell (i := 0) rfl
      have s1 := kb.cell (i := 1) rfl
      have s2 := kb.cell (i := 2) rfl
      have t0 := ks.cell (i := 0) rfl
      have t1 := ks.cell (i := 1) rfl
      have t2 := ks.cell (i := 2) rfl
      clear hb
      go_wp2_with fail
      go_ret
      exact ⟨rfl, hB⟩
    | true =>
      have hz := hzv.out
      simp only [sizedB, Bool.and_eq_true, decide_eq_true_eq] at hz
      obtain ⟨⟨⟨hv1, hv2⟩, hj1⟩, hj2⟩ := hz
      subst hj1 hj2
      obtain ⟨⟨i1, i2⟩, ⟨i3, i4⟩, hl1, ha1⟩ := vld_true hv1
      obtain ⟨_, _, hl2, ha2⟩ := vld_true hv2
      obtain ⟨pw, rfl⟩ : ∃ pw : Nat, iw = (pw : Int) := ⟨iw.toNat, by omega⟩
      obtain ⟨ph, rfl⟩ : ∃ ph : Nat, ih = (ph : Int) := ⟨ih.toNat, by omega⟩
      have h2 : ((pw * ph : Nat) : Int) = (pw : Int) * ph := by simp
      have hN : pw * ph = n := by have := hn.out; omega
      have hmn : n = m := by have := hn'.out; omega
      subst hmn
      have hx : rng xs := ha1
      have hy : rng ys := ha2
      have hvi := fun (g : Int → Int → Int) => vld_img (pw := pw) (ph := ph) (by omega) (by omega) (by omega) (by omega) g
      have d1 := dil_most (pw := pw) (ph := ph) (sw := sw.toNat) (sh := sh.toNat) (bits := bits) hx hy
      have d2 := ero_least (pw := pw) (ph := ph) (sw := sw.toNat) (sh := sh.toNat) (bits := bits) hx hy
      have hSM := Lib.hid (zipS_ok (how := 4) hv1 hv2 (by decide) (by decide))
      have hSS := Lib.hid (zipS_ok (how := 3) hv1 hv2 (by decide) (by decide))
      have hSX := Lib.hid (show morS true pw ph (zipI pw ph xs ys 4) sw sh bits = { w := pw, h := ph, px := mor pw ph sw.toNat sh.toNat bits true (zipI pw ph xs ys 4), err := 0 } from morS_ok (hvi _) hsv.out)
      have hSY := Lib.hid (show morS false pw ph (zipI pw ph xs ys 3) sw sh bits = { w := pw, h := ph, px := mor pw ph sw.toNat sh.toNat bits false (zipI pw ph xs ys 3), err := 0 } from morS_ok (hvi _) hsv.out)
      have hSP := Lib.hid (morS_ok (mx := true) hv1 hsv.out)
      have hSQ := Lib.hid (morS_ok (mx := true) hv2 hsv.out)
      have hSU := Lib.hid (morS_ok (mx := false) hv1 hsv.out)
      have hSV := Lib.hid (morS_ok (mx := false) hv2 hsv.out)
      have hSZ := Lib.hid (show zipS pw ph (mor pw ph sw.toNat sh.toNat bits true xs) pw ph (mor pw ph sw.toNat sh.toNat bits true ys) 4 = { w := pw, h := ph, px := mor pw ph sw.toNat sh.toNat bits true (zipI pw ph xs ys 4), err := 0 } by rw [d1]; exact zipS_ok (hvi _) (hvi _) (by decide) (by decide))
      have hSO := Lib.hid (show zipS pw ph (mor pw ph sw.toNat sh.toNat bits false xs) pw ph (mor pw ph sw.toNat sh.toNat bits false ys) 3 = { w := pw, h := ph, px := mor pw ph sw.toNat sh.toNat bits false (zipI pw ph xs ys 3), err := 0 } by rw [d2]; exact zipS_ok (hvi _) (hvi _) (by decide) (by decide))
      have hlM := Lib.hid (show (zipI pw ph xs ys 4).length = n from (img_length _ _ _).trans hN)
      have hlS := Lib.hid (show (zipI pw ph xs ys 3).length = n from (img_length _ _ _).trans hN)
      have hlX := Lib.hid (show (mor pw ph sw.toNat sh.toNat bits true (zipI pw ph xs ys 4)).length = n from (mor_len _ _).trans hN)
      have hlY := Lib.hid (show (mor pw ph sw.toNat sh.toNat bits false (zipI pw ph xs ys 3)).length = n from (mor_len _ _).trans hN)
      have hlP := Lib.hid (show (mor pw ph sw.toNat sh.toNat bits true xs).length = n from (mor_len _ _).trans hN)
      have hlQ := Lib.hid (show (mor pw ph sw.toNat sh.toNat bits true ys).length = n from (mor_len _ _).trans hN)
      have hlU := Lib.hid (show (mor pw ph sw.toNat sh.toNat bits false xs).length = n from (mor_len _ _).trans hN)
      have hlV := Lib.hid (show (mor pw ph sw.toNat sh.toNat bits false ys).length = n from (mor_len _ _).trans hN)
      clear d1 d2 hvi hx hy hl1 hl2 ha1 ha2 hv1 hv2 h2 hN
      have hlZ := hlX
      have hlO := hlY
      generalize mor pw ph sw.toNat sh.toNat bits true (zipI pw ph xs ys 4) = X at *
      generalize mor pw ph sw.toNat sh.toNat bits false (zipI pw ph xs ys 3) = Y at *
      generalize zipI pw ph xs ys 4 = M at *
      generalize zipI pw ph xs ys 3 = S at *
      generalize mor pw ph sw.toNat sh.toNat bits true xs = P at *
      generalize mor pw ph sw.toNat sh.toNat bits true ys = Q at *
      generalize mor pw ph sw.toNat sh.toNat bits false xs = U at *
      generalize mor pw ph sw.toNat sh.toNat bits false ys = V at *
      have hB : Below w.heap.size w (((w.alloc (.cells #[.int .i64 pw, .int .i64 ph, .slice a n c] 24)).alloc (.cells #[.int .i64 pw, .int .i64 ph, .slice a' n c'] 24)).alloc (.cells #[.int .i64 sw, .int .i64 sh, .slice as' ns cs] 40)) := below_al (below_al (below_al (Below.refl _ _) _) _) _
      have ka := (((Blk.new w 24 #[.int .i64 pw, .int .i64 ph, .slice a n c]).alloc (.cells #[.int .i64 pw, .int .i64 ph, .slice a' n c'] 24)).alloc (.cells #[.int .i64 sw, .int .i64 sh, .slice as' ns cs] 40))
      have kb := ((Blk.new (w.alloc (.cells #[.int .i64 pw, .int .i64 ph, .slice a n c] 24)) 24 #[.int .i64 pw, .int .i64 ph, .slice a' n c']).alloc (.cells #[.int .i64 sw, .int .i64 sh, .slice as' ns cs] 40))
      have ks := (Blk.new ((w.alloc (.cells #[.int .i64 pw, .int .i64 ph, .slice a n c] 24)).alloc (.cells #[.int .i64 pw, .int .i64 ph, .slice a' n c'] 24)) 40 #[.int .i64 sw, .int .i64 sh, .slice as' ns cs])
      simp only [World.size_alloc] at kb ks
      obtain ⟨W0, hW⟩ : ∃ W, (((w.alloc (.cells #[.int .i64 pw, .int .i64 ph, .slice a n c] 24)).alloc (.cells #[.int .i64 pw, .int .i64 ph, .slice a' n c'] 24)).alloc (.cells #[.int .i64 sw, .int .i64 sh, .slice as' ns cs] 40)) = W := ⟨_, rfl⟩
      rw [hW] at hB ka kb ks
      have m0 := ka.cell (i := 0) rfl
      have m1 := ka.cell (i := 1) rfl
      have m2 := ka.cell (i := 2) rfl
      have s0 := kb.cell (i := 0) rfl
      have s1 := kb.cell (i := 1) rfl
      have s2 := kb.cell (i := 2) rfl
      have t0 := ks.cell (i := 0) rfl
      have t1 := ks.cell (i := 1) rfl
      have t2 := ks.cell (i := 2) rfl
      go_enter Try.func20, Try.ntmps20
      go_wp2_with fail
      clear hW
      refine (alive_any _).mono ?_
      rintro e V1 ⟨rfl, hb⟩
      clear m0 m1 m2 s0 s1 s2 t0 t1 t2
      replace ka := ka.below hb ka.lt
      replace kb := kb.below hb kb.lt
      replace ks := ks.below hb ks.lt
      replace hB := hB.trans (hb.mono hB.size)
      have m0 := ka.cell (i := 0) rfl
      have m1 := ka.cell (i := 1) rfl
      have m2 := ka.cell (i := 2) rfl
      have s0 := kb.cell (i := 0) rfl
      have s1 := kb.cell (i := 1) rfl
      have s2 := kb.cell (i := 2) rfl
      have t0 := ks.cell (i := 0) rfl
      have t1 := ks.cell (i := 1) rfl
      have t2 := ks.cell (i := 2) rfl
      clear hb
      go_wp2_with fail
      refine (sized_any pw ph a c n xs hn pw ph a' c' n ys hn' true hzv _ (by omega) ((hr.below (Nat.le_refl _) hB).mono hB.size) (by omega) ((hr'.below (Nat.le_refl _) hB).mono hB.size)).mono ?_
      rintro e V2 ⟨rfl, hb⟩
      clear m0 m1 m2 s0 s1 s2 t0 t1 t2
      replace ka := ka.below hb ka.lt
      replace kb := kb.below hb kb.lt
      replace ks := ks.below hb ks.lt
      replace hB := hB.trans (hb.mono hB.size)
      have m0 := ka.cell (i := 0) rfl
      have m1 := ka.cell (i := 1) rfl
      have m2 := ka.cell (i := 2) rfl
      have s0 := kb.cell (i := 0) rfl
      have s1 := kb.cell (i := 1) rfl
      have s2 := kb.cell (i := 2) rfl
      have t0 := ks.cell (i := 0) rfl
      have t1 := ks.cell (i := 1) rfl
      have t2 := ks.cell (i := 2) rfl
      clear hb
      go_wp2_with fail
      refine (ValidShape_any sw sh as' cs ns bits hbn _ hsv _ (by omega) ((hrs.below (Nat.le_refl _) hB).mono hB.size)).mono ?_
      rintro e V3 ⟨rfl, hb⟩
      clear m0 m1 m2 s0 s1 s2 t0 t1 t2
      replace ka := ka.below hb ka.lt
      replace kb := kb.below hb kb.lt
      replace ks := ks.below hb ks.lt
      replace hB := hB.trans (hb.mono hB.size)
      have m0 := ka.cell (i := 0) rfl
      have m1 := ka.cell (i := 1) rfl
      have m2 := ka.cell (i := 2) rfl
      have s0 := kb.cell (i := 0) rfl
      have s1 := kb.cell (i := 1) rfl
      have s2 := kb.cell (i := 2) rfl
      have t0 := ks.cell (i := 0) rfl
      have t1 := ks.cell (i := 1) rfl
      have t2 := ks.cell (i := 2) rfl
      clear hb
      go_wp2_with fail
      have hcall := Zip_any pw ph a c n xs hn pw ph a' c' n ys hn' 4 (by decide) (by decide) _ (by omega) (by omega) ((hr.below (Nat.le_refl _) hB).mono hB.size) ((hr'.below (Nat.le_refl _) hB).mono hB.size)
      rw [hSM.out] at hcall
      refine hcall.mono ?_
      clear hcall
      rintro e V4 ⟨⟨v, hev, sl, hvl, hrow⟩, hb⟩
      have rM : V4.ownsRow w.heap.size 3 1 sl n ((M).map (Value.int .i64)) := row_base (row_len (k := (M).length) hlM.out hrow) hB.size
      obtain ⟨srMa, srMc, rfl⟩ := row_slice rM
      have he : e = .returned (.tuple #[.agg #[.int .i64 pw, .int .i64 ph, .slice srMa n srMc], .int .i64 0]) := by rw [hev, hvl]
      subst he
      clear hrow hev hvl
      clear m0 m1 m2 s0 s1 s2 t0 t1 t2
      replace ka := ka.below hb ka.lt
      replace kb := kb.below hb kb.lt
      replace ks := ks.below hb ks.lt
      replace hB := hB.trans (hb.mono hB.size)
      have m0 := ka.cell (i := 0) rfl
      have m1 := ka.cell (i := 1) rfl
      have m2 := ka.cell (i := 2) rfl
      have s0 := kb.cell (i := 0) rfl
      have s1 := kb.cell (i := 1) rfl
      have s2 := kb.cell (i := 2) rfl
      have t0 := ks.cell (i := 0) rfl
      have t1 := ks.cell (i := 1) rfl
      have t2 := ks.cell (i := 2) rfl
      clear hb
      obtain ⟨V5, hW⟩ : ∃ V5, V4.alloc (.cells #[.int .i64 pw, .int .i64 ph, .slice srMa n srMc] 24) = V5 := ⟨_, rfl⟩
      obtain ⟨bkM, hbx⟩ : ∃ bkM, V4.heap.size = bkM := ⟨_, rfl⟩
      have kM := Blk.new V4 24 #[.int .i64 pw, .int .i64 ph, .slice srMa n srMc]
      rw [hW, hbx] at kM
      have hb : Below V4.heap.size V4 V5 := alloc_below hW
      have ka' := ka.below hb ka.lt
      have lkakM := ka.lt
      rw [hbx] at lkakM
      have kb' := kb.below hb kb.lt
      have lkbkM := kb.lt
      rw [hbx] at lkbkM
      have ks' := ks.below hb ks.lt
      have lkskM := ks.lt
      rw [hbx] at lkskM
      have m0' := ka'.cell (i := 0) rfl
      have m1' := ka'.cell (i := 1) rfl
      have m2' := ka'.cell (i := 2) rfl
      have s0' := kb'.cell (i := 0) rfl
      have s1' := kb'.cell (i := 1) rfl
      have s2' := kb'.cell (i := 2) rfl
      have t0' := ks'.cell (i := 0) rfl
      have t1' := ks'.cell (i := 1) rfl
      have t2' := ks'.cell (i := 2) rfl
      have xm0 := kM.cell (i := 0) rfl
      have xm1 := kM.cell (i := 1) rfl
      have xm2 := kM.cell (i := 2) rfl
      have fxm0 := kM.frozen 0
      have fxm1 := kM.frozen 1
      have fxm2 := kM.frozen 2
      go_wp2_with fail
      clear hW
      clear hbx
      clear m0 m1 m2 s0 s1 s2 t0 t1 t2
      clear m0' m1' m2' s0' s1' s2' t0' t1' t2'
      replace ka := ka'
      clear ka'
      replace kb := kb'
      clear kb'
      replace ks := ks'
      clear ks'
      have m0 := ka.cell (i := 0) rfl
      have m1 := ka.cell (i := 1) rfl
      have m2 := ka.cell (i := 2) rfl
      have s0 := kb.cell (i := 0) rfl
      have s1 := kb.cell (i := 1) rfl
      have s2 := kb.cell (i := 2) rfl
      have t0 := ks.cell (i := 0) rfl
      have t1 := ks.cell (i := 1) rfl
      have t2 := ks.cell (i := 2) rfl
      replace rM := row_below rM hb
      replace hB := hB.trans (hb.mono hB.size)
      clear hb
      have hcall := Zip_any pw ph a c n xs hn pw ph a' c' n ys hn' 3 (by decide) (by decide) _ (by omega) (by omega) ((hr.below (Nat.le_refl _) hB).mono hB.size) ((hr'.below (Nat.le_refl _) hB).mono hB.size)
      rw [hSS.out] at hcall
      refine hcall.mono ?_
      clear hcall
      rintro e V6 ⟨⟨v, hev, sl, hvl, hrow⟩, hb⟩
      have rS : V6.ownsRow w.heap.size 3 1 sl n ((S).map (Value.int .i64)) := row_base (row_len (k := (S).length) hlS.out hrow) hB.size
      obtain ⟨srSa, srSc, rfl⟩ := row_slice rS
      have he : e = .returned (.tuple #[.agg #[.int .i64 pw, .int .i64 ph, .slice srSa n srSc], .int .i64 0]) := by rw [hev, hvl]
      subst he
      clear hrow hev hvl
      clear m0 m1 m2 s0 s1 s2 t0 t1 t2 xm0 xm1 xm2 fxm0 fxm1 fxm2
      replace ka := ka.below hb ka.lt
      replace kb := kb.below hb kb.lt
      replace ks := ks.below hb ks.lt
      replace kM := kM.below hb kM.lt
      replace rM := row_below rM hb
      replace hB := hB.trans (hb.mono hB.size)
      have m0 := ka.cell (i := 0) rfl
      have m1 := ka.cell (i := 1) rfl
      have m2 := ka.cell (i := 2) rfl
      have s0 := kb.cell (i := 0) rfl
      have s1 := kb.cell (i := 1) rfl
      have s2 := kb.cell (i := 2) rfl
      have t0 := ks.cell (i := 0) rfl
      have t1 := ks.cell (i := 1) rfl
      have t2 := ks.cell (i := 2) rfl
      have xm0 := kM.cell (i := 0) rfl
      have xm1 := kM.cell (i := 1) rfl
      have xm2 := kM.cell (i := 2) rfl
      have fxm0 := kM.frozen 0
      have fxm1 := kM.frozen 1
      have fxm2 := kM.frozen 2
      clear hb
      obtain ⟨V7, hW⟩ : ∃ V7, V6.alloc (.cells #[.int .i64 pw, .int .i64 ph, .slice srSa n srSc] 24) = V7 := ⟨_, rfl⟩
      obtain ⟨bkS, hbx⟩ : ∃ bkS, V6.heap.size = bkS := ⟨_, rfl⟩
      have kS := Blk.new V6 24 #[.int .i64 pw, .int .i64 ph, .slice srSa n srSc]
      rw [hW, hbx] at kS
      have hb : Below V6.heap.size V6 V7 := alloc_below hW
      have ka' := ka.below hb ka.lt
      have lkakS := ka.lt
      rw [hbx] at lkakS
      have kb' := kb.below hb kb.lt
      have lkbkS := kb.lt
      rw [hbx] at lkbkS
      have ks' := ks.below hb ks.lt
      have lkskS := ks.lt
      rw [hbx] at lkskS
      have kM' := kM.below hb kM.lt
      have lkMkS := kM.lt
      rw [hbx] at lkMkS
      have m0' := ka'.cell (i := 0) rfl
      have m1' := ka'.cell (i := 1) rfl
      have m2' := ka'.cell (i := 2) rfl
      have s0' := kb'.cell (i := 0) rfl
      have s1' := kb'.cell (i := 1) rfl
      have s2' := kb'.cell (i := 2) rfl
      have t0' := ks'.cell (i := 0) rfl
      have t1' := ks'.cell (i := 1) rfl
      have t2' := ks'.cell (i := 2) rfl
      have xm0' := kM'.cell (i := 0) rfl
      have xm1' := kM'.cell (i := 1) rfl
      have xm2' := kM'.cell (i := 2) rfl
      have fxm0' := kM'.frozen 0
      have fxm1' := kM'.frozen 1
      have fxm2' := kM'.frozen 2
      have xs0 := kS.cell (i := 0) rfl
      have xs1 := kS.cell (i := 1) rfl
      have xs2 := kS.cell (i := 2) rfl
      have fxs0 := kS.frozen 0
      have fxs1 := kS.frozen 1
      have fxs2 := kS.frozen 2
      go_wp2_with fail
      clear hW
      clear hbx
      clear m0 m1 m2 s0 s1 s2 t0 t1 t2 xm0 xm1 xm2 fxm0 fxm1 fxm2
      clear m0' m1' m2' s0' s1' s2' t0' t1' t2' xm0' xm1' xm2' fxm0' fxm1' fxm2'
      replace ka := ka'
      clear ka'
      replace kb := kb'
      clear kb'
      replace ks := ks'
      clear ks'
      replace kM := kM'
      clear kM'
      have m0 := ka.cell (i := 0) rfl
      have m1 := ka.cell (i := 1) rfl
      have m2 := ka.cell (i := 2) rfl
      have s0 := kb.cell (i := 0) rfl
      have s1 := kb.cell (i := 1) rfl
      have s2 := kb.cell (i := 2) rfl
      have t0 := ks.cell (i := 0) rfl
      have t1 := ks.cell (i := 1) rfl
      have t2 := ks.cell (i := 2) rfl
      have xm0 := kM.cell (i := 0) rfl
      have xm1 := kM.cell (i := 1) rfl
      have xm2 := kM.cell (i := 2) rfl
      have fxm0 := kM.frozen 0
      have fxm1 := kM.frozen 1
      have fxm2 := kM.frozen 2
      replace rM := row_below rM hb
      replace rS := row_below rS hb
      replace hB := hB.trans (hb.mono hB.size)
      clear hb
      have hcall := Dilate_any pw ph srMa srMc n M hlM sw sh as' cs ns bits hbn _ (by omega) (row_rd' hlM.out rM) (by omega) ((hrs.below (Nat.le_refl _) hB).mono hB.size)
      rw [hSX.out] at hcall
      refine hcall.mono ?_
      clear hcall
      rintro e V8 ⟨⟨v, hev, sl, hvl, hrow⟩, hb⟩
      have rX : V8.ownsRow w.heap.size 3 1 sl n ((X).map (Value.int .i64)) := row_base (row_len (k := (X).length) hlX.out hrow) hB.size
      obtain ⟨srXa, srXc, rfl⟩ := row_slice rX
      have he : e = .returned (.tuple #[.agg #[.int .i64 pw, .int .i64 ph, .slice srXa n srXc], .int .i64 0]) := by rw [hev, hvl]
      subst he
      clear hrow hev hvl
      clear m0 m1 m2 s0 s1 s2 t0 t1 t2 xm0 xm1 xm2 fxm0 fxm1 fxm2 xs0 xs1 xs2 fxs0 fxs1 fxs2
      replace ka := ka.below hb ka.lt
      replace kb := kb.below hb kb.lt
      replace ks := ks.below hb ks.lt
      replace kM := kM.below hb kM.lt
      replace kS := kS.below hb kS.lt
      replace rM := row_below rM hb
      replace rS := row_below rS hb
      replace hB := hB.trans (hb.mono hB.size)
      have m0 := ka.cell (i := 0) rfl
      have m1 := ka.cell (i := 1) rfl
      have m2 := ka.cell (i := 2) rfl
      have s0 := kb.cell (i := 0) rfl
      have s1 := kb.cell (i := 1) rfl
      have s2 := kb.cell (i := 2) rfl
      have t0 := ks.cell (i := 0) rfl
      have t1 := ks.cell (i := 1) rfl
      have t2 := ks.cell (i := 2) rfl
      have xm0 := kM.cell (i := 0) rfl
      have xm1 := kM.cell (i := 1) rfl
      have xm2 := kM.cell (i := 2) rfl
      have fxm0 := kM.frozen 0
      have fxm1 := kM.frozen 1
      have fxm2 := kM.frozen 2
      have xs0 := kS.cell (i := 0) rfl
      have xs1 := kS.cell (i := 1) rfl
      have xs2 := kS.cell (i := 2) rfl
      have fxs0 := kS.frozen 0
      have fxs1 := kS.frozen 1
      have fxs2 := kS.frozen 2
      clear hb
      obtain ⟨V9, hW⟩ : ∃ V9, V8.alloc (.cells #[.int .i64 pw, .int .i64 ph, .slice srXa n srXc] 24) = V9 := ⟨_, rfl⟩
      obtain ⟨bkX, hbx⟩ : ∃ bkX, V8.heap.size = bkX := ⟨_, rfl⟩
      have kX := Blk.new V8 24 #[.int .i64 pw, .int .i64 ph, .slice srXa n srXc]
      rw [hW, hbx] at kX
      have hb : Below V8.heap.size V8 V9 := alloc_below hW
      have ka' := ka.below hb ka.lt
      have lkakX := ka.lt
      rw [hbx] at lkakX
      have kb' := kb.below hb kb.lt
      have lkbkX := kb.lt
      rw [hbx] at lkbkX
      have ks' := ks.below hb ks.lt
      have lkskX := ks.lt
      rw [hbx] at lkskX
      have kM' := kM.below hb kM.lt
      have lkMkX := kM.lt
      rw [hbx] at lkMkX
      have kS' := kS.below hb kS.lt
      have lkSkX := kS.lt
      rw [hbx] at lkSkX
      have m0' := ka'.cell (i := 0) rfl
      have m1' := ka'.cell (i := 1) rfl
      have m2' := ka'.cell (i := 2) rfl
      have s0' := kb'.cell (i := 0) rfl
      have s1' := kb'.cell (i := 1) rfl
      have s2' := kb'.cell (i := 2) rfl
      have t0' := ks'.cell (i := 0) rfl
      have t1' := ks'.cell (i := 1) rfl
      have t2' := ks'.cell (i := 2) rfl
      have xm0' := kM'.cell (i := 0) rfl
      have xm1' := kM'.cell (i := 1) rfl
      have xm2' := kM'.cell (i := 2) rfl
      have fxm0' := kM'.frozen 0
      have fxm1' := kM'.frozen 1
      have fxm2' := kM'.frozen 2
      have xs0' := kS'.cell (i := 0) rfl
      have xs1' := kS'.cell (i := 1) rfl
      have xs2' := kS'.cell (i := 2) rfl
      have fxs0' := kS'.frozen 0
      have fxs1' := kS'.frozen 1
      have fxs2' := kS'.frozen 2
      have xx0 := kX.cell (i := 0) rfl
      have xx1 := kX.cell (i := 1) rfl
      have xx2 := kX.cell (i := 2) rfl
      have fxx0 := kX.frozen 0
      have fxx1 := kX.frozen 1
      have fxx2 := kX.frozen 2
      go_wp2_with fail
      clear hW
      clear hbx
      clear m0 m1 m2 s0 s1 s2 t0 t1 t2 xm0 xm1 xm2 fxm0 fxm1 fxm2 xs0 xs1 xs2 fxs0 fxs1 fxs2
      clear m0' m1' m2' s0' s1' s2' t0' t1' t2' xm0' xm1' xm2' fxm0' fxm1' fxm2' xs0' xs1' xs2' fxs0' fxs1' fxs2'
      replace ka := ka'
      clear ka'
      replace kb := kb'
      clear kb'
      replace ks := ks'
      clear ks'
      replace kM := kM'
      clear kM'
      replace kS := kS'
      clear kS'
      have m0 := ka.cell (i := 0) rfl
      have m1 := ka.cell (i := 1) rfl
      have m2 := ka.cell (i := 2) rfl
      have s0 := kb.cell (i := 0) rfl
      have s1 := kb.cell (i := 1) rfl
      have s2 := kb.cell (i := 2) rfl
      have t0 := ks.cell (i := 0) rfl
      have t1 := ks.cell (i := 1) rfl
      have t2 := ks.cell (i := 2) rfl
      have xm0 := kM.cell (i := 0) rfl
      have xm1 := kM.cell (i := 1) rfl
      have xm2 := kM.cell (i := 2) rfl
      have fxm0 := kM.frozen 0
      have fxm1 := kM.frozen 1
      have fxm2 := kM.frozen 2
      have xs0 := kS.cell (i := 0) rfl
      have xs1 := kS.cell (i := 1) rfl
      have xs2 := kS.cell (i := 2) rfl
      have fxs0 := kS.frozen 0
      have fxs1 := kS.frozen 1
      have fxs2 := kS.frozen 2
      replace rM := row_below rM hb
      replace rS := row_below rS hb
      replace rX := row_below rX hb
      replace hB := hB.trans (hb.mono hB.size)
      clear hb
      have hcall := Erode_any pw ph srSa srSc n S hlS sw sh as' cs ns bits hbn _ (by omega) (row_rd' hlS.out rS) (by omega) ((hrs.below (Nat.le_refl _) hB).mono hB.size)
      rw [hSY.out] at hcall
      refine hcall.mono ?_
      clear hcall
      rintro e V10 ⟨⟨v, hev, sl, hvl, hrow⟩, hb⟩
      have rY : V10.ownsRow w.heap.size 3 1 sl n ((Y).map (Value.int .i64)) := row_base (row_len (k := (Y).length) hlY.out hrow) hB.size
      obtain ⟨srYa, srYc, rfl⟩ := row_slice rY
      have he : e = .returned (.tuple #[.agg #[.int .i64 pw, .int .i64 ph, .slice srYa n srYc], .int .i64 0]) := by rw [hev, hvl]
      subst he
      clear hrow hev hvl
      clear m0 m1 m2 s0 s1 s2 t0 t1 t2 xm0 xm1 xm2 fxm0 fxm1 fxm2 xs0 xs1 xs2 fxs0 fxs1 fxs2 xx0 xx1 xx2 fxx0 fxx1 fxx2
      replace ka := ka.below hb ka.lt
      replace kb := kb.below hb kb.lt
      replace ks := ks.below hb ks.lt
      replace kM := kM.below hb kM.lt
      replace kS := kS.below hb kS.lt
      replace kX := kX.below hb kX.lt
      replace rM := row_below rM hb
      replace rS := row_below rS hb
      replace rX := row_below rX hb
      replace hB := hB.trans (hb.mono hB.size)
      have m0 := ka.cell (i := 0) rfl
      have m1 := ka.cell (i := 1) rfl
      have m2 := ka.cell (i := 2) rfl
      have s0 := kb.cell (i := 0) rfl
      have s1 := kb.cell (i := 1) rfl
      have s2 := kb.cell (i := 2) rfl
      have t0 := ks.cell (i := 0) rfl
      have t1 := ks.cell (i := 1) rfl
      have t2 := ks.cell (i := 2) rfl
      have xm0 := kM.cell (i := 0) rfl
      have xm1 := kM.cell (i := 1) rfl
      have xm2 := kM.cell (i := 2) rfl
      have fxm0 := kM.frozen 0
      have fxm1 := kM.frozen 1
      have fxm2 := kM.frozen 2
      have xs0 := kS.cell (i := 0) rfl
      have xs1 := kS.cell (i := 1) rfl
      have xs2 := kS.cell (i := 2) rfl
      have fxs0 := kS.frozen 0
      have fxs1 := kS.frozen 1
      have fxs2 := kS.frozen 2
      have xx0 := kX.cell (i := 0) rfl
      have xx1 := kX.cell (i := 1) rfl
      have xx2 := kX.cell (i := 2) rfl
      have fxx0 := kX.frozen 0
      have fxx1 := kX.frozen 1
      have fxx2 := kX.frozen 2
      clear hb
      obtain ⟨V11, hW⟩ : ∃ V11, V10.alloc (.cells #[.int .i64 pw, .int .i64 ph, .slice srYa n srYc] 24) = V11 := ⟨_, rfl⟩
      obtain ⟨bkY, hbx⟩ : ∃ bkY, V10.heap.size = bkY := ⟨_, rfl⟩
      have kY := Blk.new V10 24 #[.int .i64 pw, .int .i64 ph, .slice srYa n srYc]
      rw [hW, hbx] at kY
      have hb : Below V10.heap.size V10 V11 := alloc_below hW
      have ka' := ka.below hb ka.lt
      have lkakY := ka.lt
      rw [hbx] at lkakY
      have kb' := kb.below hb kb.lt
      have lkbkY := kb.lt
      rw [hbx] at lkbkY
      have ks' := ks.below hb ks.lt
      have lkskY := ks.lt
      rw [hbx] at lkskY
      have kM' := kM.below hb kM.lt
      have lkMkY := kM.lt
      rw [hbx] at lkMkY
      have kS' := kS.below hb kS.lt
      have lkSkY := kS.lt
      rw [hbx] at lkSkY
      have kX' := kX.below hb kX.lt
      have lkXkY := kX.lt
      rw [hbx] at lkXkY
      have m0' := ka'.cell (i := 0) rfl
      have m1' := ka'.cell (i := 1) rfl
      have m2' := ka'.cell (i := 2) rfl
      have s0' := kb'.cell (i := 0) rfl
      have s1' := kb'.cell (i := 1) rfl
      have s2' := kb'.cell (i := 2) rfl
      have t0' := ks'.cell (i := 0) rfl
      have t1' := ks'.cell (i := 1) rfl
      have t2' := ks'.cell (i := 2) rfl
      have xm0' := kM'.cell (i := 0) rfl
      have xm1' := kM'.cell (i := 1) rfl
      have xm2' := kM'.cell (i := 2) rfl
      have fxm0' := kM'.frozen 0
      have fxm1' := kM'.frozen 1
      have fxm2' := kM'.frozen 2
      have xs0' := kS'.cell (i := 0) rfl
      have xs1' := kS'.cell (i := 1) rfl
      have xs2' := kS'.cell (i := 2) rfl
      have fxs0' := kS'.frozen 0
      have fxs1' := kS'.frozen 1
      have fxs2' := kS'.frozen 2
      have xx0' := kX'.cell (i := 0) rfl
      have xx1' := kX'.cell (i := 1) rfl
      have xx2' := kX'.cell (i := 2) rfl
      have fxx0' := kX'.frozen 0
      have fxx1' := kX'.frozen 1
      have fxx2' := kX'.frozen 2
      have xy0 := kY.cell (i := 0) rfl
      have xy1 := kY.cell (i := 1) rfl
      have xy2 := kY.cell (i := 2) rfl
      have fxy0 := kY.frozen 0
      have fxy1 := kY.frozen 1
      have fxy2 := kY.frozen 2
      go_wp2_with fail
      clear hW
      clear hbx
      clear m0 m1 m2 s0 s1 s2 t0 t1 t2 xm0 xm1 xm2 fxm0 fxm1 fxm2 xs0 xs1 xs2 fxs0 fxs1 fxs2 xx0 xx1 xx2 fxx0 fxx1 fxx2
      clear m0' m1' m2' s0' s1' s2' t0' t1' t2' xm0' xm1' xm2' fxm0' fxm1' fxm2' xs0' xs1' xs2' fxs0' fxs1' fxs2' xx0' xx1' xx2' fxx0' fxx1' fxx2'
      replace ka := ka'
      clear ka'
      replace kb := kb'
      clear kb'
      replace ks := ks'
      clear ks'
      replace kM := kM'
      clear kM'
      replace kS := kS'
      clear kS'
      replace kX := kX'
      clear kX'
      have m0 := ka.cell (i := 0) rfl
      have m1 := ka.cell (i := 1) rfl
      have m2 := ka.cell (i := 2) rfl
      have s0 := kb.cell (i := 0) rfl
      have s1 := kb.cell (i := 1) rfl
      have s2 := kb.cell (i := 2) rfl
      have t0 := ks.cell (i := 0) rfl
      have t1 := ks.cell (i := 1) rfl
      have t2 := ks.cell (i := 2) rfl
      have xm0 := kM.cell (i := 0) rfl
      have xm1 := kM.cell (i := 1) rfl
      have xm2 := kM.cell (i := 2) rfl
      have fxm0 := kM.frozen 0
      have fxm1 := kM.frozen 1
      have fxm2 := kM.frozen 2
      have xs0 := kS.cell (i := 0) rfl
      have xs1 := kS.cell (i := 1) rfl
      have xs2 := kS.cell (i := 2) rfl
      have fxs0 := kS.frozen 0
      have fxs1 := kS.frozen 1
      have fxs2 := kS.frozen 2
      have xx0 := kX.cell (i := 0) rfl
      have xx1 := kX.cell (i := 1) rfl
      have xx2 := kX.cell (i := 2) rfl
      have fxx0 := kX.frozen 0
      have fxx1 := kX.frozen 1
      have fxx2 := kX.frozen 2
      replace rM := row_below rM hb
      replace rS := row_below rS hb
      replace rX := row_below rX hb
      replace rY := row_below rY hb
      replace hB := hB.trans (hb.mono hB.size)
      clear hb
      have hcall := Dilate_any pw ph a c n xs hn sw sh as' cs ns bits hbn _ (by omega) ((hr.below (Nat.le_refl _) hB).mono hB.size) (by omega) ((hrs.below (Nat.le_refl _) hB).mono hB.size)
      rw [hSP.out] at hcall
      refine hcall.mono ?_
      clear hcall
      rintro e V12 ⟨⟨v, hev, sl, hvl, hrow⟩, hb⟩
      have rP : V12.ownsRow w.heap.size 3 1 sl n ((P).map (Value.int .i64)) := row_base (row_len (k := (P).length) hlP.out hrow) hB.size
      obtain ⟨srPa, srPc, rfl⟩ := row_slice rP
      have he : e = .returned (.tuple #[.agg #[.int .i64 pw, .int .i64 ph, .slice srPa n srPc], .int .i64 0]) := by rw [hev, hvl]
      subst he
      clear hrow hev hvl
      clear m0 m1 m2 s0 s1 s2 t0 t1 t2 xm0 xm1 xm2 fxm0 fxm1 fxm2 xs0 xs1 xs2 fxs0 fxs1 fxs2 xx0 xx1 xx2 fxx0 fxx1 fxx2 xy0 xy1 xy2 fxy0 fxy1 fxy2
      replace ka := ka.below hb ka.lt
      replace kb := kb.below hb kb.lt
      replace ks := ks.below hb ks.lt
      replace kM := kM.below hb kM.lt
      replace kS := kS.below hb kS.lt
      replace kX := kX.below hb kX.lt
      replace kY := kY.below hb kY.lt
      replace rM := row_below rM hb
      replace rS := row_below rS hb
      replace rX := row_below rX hb
      replace rY := row_below rY hb
      replace hB := hB.trans (hb.mono hB.size)
      have m0 := ka.cell (i := 0) rfl
      have m1 := ka.cell (i := 1) rfl
      have m2 := ka.cell (i := 2) rfl
      have s0 := kb.cell (i := 0) rfl
      have s1 := kb.cell (i := 1) rfl
      have s2 := kb.cell (i := 2) rfl
      have t0 := ks.cell (i := 0) rfl
      have t1 := ks.cell (i := 1) rfl
      have t2 := ks.cell (i := 2) rfl
      have xm0 := kM.cell (i := 0) rfl
      have xm1 := kM.cell (i := 1) rfl
      have xm2 := kM.cell (i := 2) rfl
      have fxm0 := kM.frozen 0
      have fxm1 := kM.frozen 1
      have fxm2 := kM.frozen 2
      have xs0 := kS.cell (i := 0) rfl
      have xs1 := kS.cell (i := 1) rfl
      have xs2 := kS.cell (i := 2) rfl
      have fxs0 := kS.frozen 0
      have fxs1 := kS.frozen 1
      have fxs2 := kS.frozen 2
      have xx0 := kX.cell (i := 0) rfl
      have xx1 := kX.cell (i := 1) rfl
      have xx2 := kX.cell (i := 2) rfl
      have fxx0 := kX.frozen 0
      have fxx1 := kX.frozen 1
      have fxx2 := kX.frozen 2
      have xy0 := kY.cell (i := 0) rfl
      have xy1 := kY.cell (i := 1) rfl
      have xy2 := kY.cell (i := 2) rfl
      have fxy0 := kY.frozen 0
      have fxy1 := kY.frozen 1
      have fxy2 := kY.frozen 2
      clear hb
      obtain ⟨V13, hW⟩ : ∃ V13, V12.alloc (.cells #[.int .i64 pw, .int .i64 ph, .slice srPa n srPc] 24) = V13 := ⟨_, rfl⟩
      obtain ⟨bkP, hbx⟩ : ∃ bkP, V12.heap.size = bkP := ⟨_, rfl⟩
      have kP := Blk.new V12 24 #[.int .i64 pw, .int .i64 ph, .slice srPa n srPc]
      rw [hW, hbx] at kP
      have hb : Below V12.heap.size V12 V13 := alloc_below hW
      have ka' := ka.below hb ka.lt
      have lkakP := ka.lt
      rw [hbx] at lkakP
      have kb' := kb.below hb kb.lt
      have lkbkP := kb.lt
      rw [hbx] at lkbkP
      have ks' := ks.below hb ks.lt
      have lkskP := ks.lt
      rw [hbx] at lkskP
      have kM' := kM.below hb kM.lt
      have lkMkP := kM.lt
      rw [hbx] at lkMkP
      have kS' := kS.below hb kS.lt
      have lkSkP := kS.lt
      rw [hbx] at lkSkP
      have kX' := kX.below hb kX.lt
      have lkXkP := kX.lt
      rw [hbx] at lkXkP
      have kY' := kY.below hb kY.lt
      have lkYkP := kY.lt
      rw [hbx] at lkYkP
      have m0' := ka'.cell (i := 0) rfl
      have m1' := ka'.cell (i := 1) rfl
      have m2' := ka'.cell (i := 2) rfl
      have s0' := kb'.cell (i := 0) rfl
      have s1' := kb'.cell (i := 1) rfl
      have s2' := kb'.cell (i := 2) rfl
      have t0' := ks'.cell (i := 0) rfl
      have t1' := ks'.cell (i := 1) rfl
      have t2' := ks'.cell (i := 2) rfl
      have xm0' := kM'.cell (i := 0) rfl
      have xm1' := kM'.cell (i := 1) rfl
      have xm2' := kM'.cell (i := 2) rfl
      have fxm0' := kM'.frozen 0
      have fxm1' := kM'.frozen 1
      have fxm2' := kM'.frozen 2
      have xs0' := kS'.cell (i := 0) rfl
      have xs1' := kS'.cell (i := 1) rfl
      have xs2' := kS'.cell (i := 2) rfl
      have fxs0' := kS'.frozen 0
      have fxs1' := kS'.frozen 1
      have fxs2' := kS'.frozen 2
      have xx0' := kX'.cell (i := 0) rfl
      have xx1' := kX'.cell (i := 1) rfl
      have xx2' := kX'.cell (i := 2) rfl
      have fxx0' := kX'.frozen 0
      have fxx1' := kX'.frozen 1
      have fxx2' := kX'.frozen 2
      have xy0' := kY'.cell (i := 0) rfl
      have xy1' := kY'.cell (i := 1) rfl
      have xy2' := kY'.cell (i := 2) rfl
      have fxy0' := kY'.frozen 0
      have fxy1' := kY'.frozen 1
      have fxy2' := kY'.frozen 2
      have xp0 := kP.cell (i := 0) rfl
      have xp1 := kP.cell (i := 1) rfl
      have xp2 := kP.cell (i := 2) rfl
      have fxp0 := kP.frozen 0
      have fxp1 := kP.frozen 1
      have fxp2 := kP.frozen 2
      go_wp2_with fail
      clear hW
      clear hbx
      clear m0 m1 m2 s0 s1 s2 t0 t1 t2 xm0 xm1 xm2 fxm0 fxm1 fxm2 xs0 xs1 xs2 fxs0 fxs1 fxs2 xx0 xx1 xx2 fxx0 fxx1 fxx2 xy0 xy1 xy2 fxy0 fxy1 fxy2
      clear m0' m1' m2' s0' s1' s2' t0' t1' t2' xm0' xm1' xm2' fxm0' fxm1' fxm2' xs0' xs1' xs2' fxs0' fxs1' fxs2' xx0' xx1' xx2' fxx0' fxx1' fxx2' xy0' xy1' xy2' fxy0' fxy1' fxy2'
      replace ka := ka'
      clear ka'
      replace kb := kb'
      clear kb'
      replace ks := ks'
      clear ks'
      replace kM := kM'
      clear kM'
      replace kS := kS'
      clear kS'
      replace kX := kX'
      clear kX'
      replace kY := kY'
      clear kY'
      have m0 := ka.cell (i := 0) rfl
      have m1 := ka.cell (i := 1) rfl
      have m2 := ka.cell (i := 2) rfl
      have s0 := kb.cell (i := 0) rfl
      have s1 := kb.cell (i := 1) rfl
      have s2 := kb.cell (i := 2) rfl
      have t0 := ks.cell (i := 0) rfl
      have t1 := ks.cell (i := 1) rfl
      have t2 := ks.cell (i := 2) rfl
      have xm0 := kM.cell (i := 0) rfl
      have xm1 := kM.cell (i := 1) rfl
      have xm2 := kM.cell (i := 2) rfl
      have fxm0 := kM.frozen 0
      have fxm1 := kM.frozen 1
      have fxm2 := kM.frozen 2
      have xs0 := kS.cell (i := 0) rfl
      have xs1 := kS.cell (i := 1) rfl
      have xs2 := kS.cell (i := 2) rfl
      have fxs0 := kS.frozen 0
      have fxs1 := kS.frozen 1
      have fxs2 := kS.frozen 2
      have xx0 := kX.cell (i := 0) rfl
      have xx1 := kX.cell (i := 1) rfl
      have xx2 := kX.cell (i := 2) rfl
      have fxx0 := kX.frozen 0
      have fxx1 := kX.frozen 1
      have fxx2 := kX.frozen 2
      have xy0 := kY.cell (i := 0) rfl
      have xy1 := kY.cell (i := 1) rfl
      have xy2 := kY.cell (i := 2) rfl
      have fxy0 := kY.frozen 0
      have fxy1 := kY.frozen 1
      have fxy2 := kY.frozen 2
      replace rM := row_below rM hb
      replace rS := row_below rS hb
      replace rX := row_below rX hb
      replace rY := row_below rY hb
      replace rP := row_below rP hb
      replace hB := hB.trans (hb.mono hB.size)
      clear hb
      have hcall := Dilate_any pw ph a' c' n ys hn' sw sh as' cs ns bits hbn _ (by omega) ((hr'.below (Nat.le_refl _) hB).mono hB.size) (by omega) ((hrs.below (Nat.le_refl _) hB).mono hB.size)
      rw [hSQ.out] at hcall
      refine hcall.mono ?_
      clear hcall
      rintro e V14 ⟨⟨v, hev, sl, hvl, hrow⟩, hb⟩
      have rQ : V14.ownsRow w.heap.size 3 1 sl n ((Q).map (Value.int .i64)) := row_base (row_len (k := (Q).length) hlQ.out hrow) hB.size
      obtain ⟨srQa, srQc, rfl⟩ := row_slice rQ
      have he : e = .returned (.tuple #[.agg #[.int .i64 pw, .int .i64 ph, .slice srQa n srQc], .int .i64 0]) := by rw [hev, hvl]
      subst he
      clear hrow hev hvl
      clear m0 m1 m2 s0 s1 s2 t0 t1 t2 xm0 xm1 xm2 fxm0 fxm1 fxm2 xs0 xs1 xs2 fxs0 fxs1 fxs2 xx0 xx1 xx2 fxx0 fxx1 fxx2 xy0 xy1 xy2 fxy0 fxy1 fxy2 xp0 xp1 xp2 fxp0 fxp1 fxp2
      replace ka := ka.below hb ka.lt
      replace kb := kb.below hb kb.lt
      replace ks := ks.below hb ks.lt
      replace kM := kM.below hb kM.lt
      replace kS := kS.below hb kS.lt
      replace kX := kX.below hb kX.lt
      replace kY := kY.below hb kY.lt
      replace kP := kP.below hb kP.lt
      replace rM := row_below rM hb
      replace rS := row_below rS hb
      replace rX := row_below rX hb
      replace rY := row_below rY hb
      replace rP := row_below rP hb
      replace hB := hB.trans (hb.mono hB.size)
      have m0 := ka.cell (i := 0) rfl
      have m1 := ka.cell (i := 1) rfl
      have m2 := ka.cell (i := 2) rfl
      have s0 := kb.cell (i := 0) rfl
      have s1 := kb.cell (i := 1) rfl
      have s2 := kb.cell (i := 2) rfl
      have t0 := ks.cell (i := 0) rfl
      have t1 := ks.cell (i := 1) rfl
      have t2 := ks.cell (i := 2) rfl
      have xm0 := kM.cell (i := 0) rfl
      have xm1 := kM.cell (i := 1) rfl
      have xm2 := kM.cell (i := 2) rfl
      have fxm0 := kM.frozen 0
      have fxm1 := kM.frozen 1
      have fxm2 := kM.frozen 2
      have xs0 := kS.cell (i := 0) rfl
      have xs1 := kS.cell (i := 1) rfl
      have xs2 := kS.cell (i := 2) rfl
      have fxs0 := kS.frozen 0
      have fxs1 := kS.frozen 1
      have fxs2 := kS.frozen 2
      have xx0 := kX.cell (i := 0) rfl
      have xx1 := kX.cell (i := 1) rfl
      have xx2 := kX.cell (i := 2) rfl
      have fxx0 := kX.frozen 0
      have fxx1 := kX.frozen 1
      have fxx2 := kX.frozen 2
      have xy0 := kY.cell (i := 0) rfl
      have xy1 := kY.cell (i := 1) rfl
      have xy2 := kY.cell (i := 2) rfl
      have fxy0 := kY.frozen 0
      have fxy1 := kY.frozen 1
      have fxy2 := kY.frozen 2
      have xp0 := kP.cell (i := 0) rfl
      have xp1 := kP.cell (i := 1) rfl
      have xp2 := kP.cell (i := 2) rfl
      have fxp0 := kP.frozen 0
      have fxp1 := kP.frozen 1
      have fxp2 := kP.frozen 2
      clear hb
      obtain ⟨V15, hW⟩ : ∃ V15, V14.alloc (.cells #[.int .i64 pw, .int .i64 ph, .slice srQa n srQc] 24) = V15 := ⟨_, rfl⟩
      obtain ⟨bkQ, hbx⟩ : ∃ bkQ, V14.heap.size = bkQ := ⟨_, rfl⟩
      have kQ := Blk.new V14 24 #[.int .i64 pw, .int .i64 ph, .slice srQa n srQc]
      rw [hW, hbx] at kQ
      have hb : Below V14.heap.size V14 V15 := alloc_below hW
      have ka' := ka.below hb ka.lt
      have lkakQ := ka.lt
      rw [hbx] at lkakQ
      have kb' := kb.below hb kb.lt
      have lkbkQ := kb.lt
      rw [hbx] at lkbkQ
      have ks' := ks.below hb ks.lt
      have lkskQ := ks.lt
      rw [hbx] at lkskQ
      have kM' := kM.below hb kM.lt
      have lkMkQ := kM.lt
      rw [hbx] at lkMkQ
      have kS' := kS.below hb kS.lt
      have lkSkQ := kS.lt
      rw [hbx] at lkSkQ
      have kX' := kX.below hb kX.lt
      have lkXkQ := kX.lt
      rw [hbx] at lkXkQ
      have kY' := kY.below hb kY.lt
      have lkYkQ := kY.lt
      rw [hbx] at lkYkQ
      have kP' := kP.below hb kP.lt
      have lkPkQ := kP.lt
      rw [hbx] at lkPkQ
      have m0' := ka'.cell (i := 0) rfl
      have m1' := ka'.cell (i := 1) rfl
      have m2' := ka'.cell (i := 2) rfl
      have s0' := kb'.cell (i := 0) rfl
      have s1' := kb'.cell (i := 1) rfl
      have s2' := kb'.cell (i := 2) rfl
      have t0' := ks'.cell (i := 0) rfl
      have t1' := ks'.cell (i := 1) rfl
      have t2' := ks'.cell (i := 2) rfl
      have xm0' := kM'.cell (i := 0) rfl
      have xm1' := kM'.cell (i := 1) rfl
      have xm2' := kM'.cell (i := 2) rfl
      have fxm0' := kM'.frozen 0
      have fxm1' := kM'.frozen 1
      have fxm2' := kM'.frozen 2
      have xs0' := kS'.cell (i := 0) rfl
      have xs1' := kS'.cell (i := 1) rfl
      have xs2' := kS'.cell (i := 2) rfl
      have fxs0' := kS'.frozen 0
      have fxs1' := kS'.frozen 1
      have fxs2' := kS'.frozen 2
      have xx0' := kX'.cell (i := 0) rfl
      have xx1' := kX'.cell (i := 1) rfl
      have xx2' := kX'.cell (i := 2) rfl
      have fxx0' := kX'.frozen 0
      have fxx1' := kX'.frozen 1
      have fxx2' := kX'.frozen 2
      have xy0' := kY'.cell (i := 0) rfl
      have xy1' := kY'.cell (i := 1) rfl
      have xy2' := kY'.cell (i := 2) rfl
      have fxy0' := kY'.frozen 0
      have fxy1' := kY'.frozen 1
      have fxy2' := kY'.frozen 2
      have xp0' := kP'.cell (i := 0) rfl
      have xp1' := kP'.cell (i := 1) rfl
      have xp2' := kP'.cell (i := 2) rfl
      have fxp0' := kP'.frozen 0
      have fxp1' := kP'.frozen 1
      have fxp2' := kP'.frozen 2
      have xq0 := kQ.cell (i := 0) rfl
      have xq1 := kQ.cell (i := 1) rfl
      have xq2 := kQ.cell (i := 2) rfl
      have fxq0 := kQ.frozen 0
      have fxq1 := kQ.frozen 1
      have fxq2 := kQ.frozen 2
      go_wp2_with fail
      clear hW
      clear hbx
      clear m0 m1 m2 s0 s1 s2 t0 t1 t2 xm0 xm1 xm2 fxm0 fxm1 fxm2 xs0 xs1 xs2 fxs0 fxs1 fxs2 xx0 xx1 xx2 fxx0 fxx1 fxx2 xy0 xy1 xy2 fxy0 fxy1 fxy2 xp0 xp1 xp2 fxp0 fxp1 fxp2
      clear m0' m1' m2' s0' s1' s2' t0' t1' t2' xm0' xm1' xm2' fxm0' fxm1' fxm2' xs0' xs1' xs2' fxs0' fxs1' fxs2' xx0' xx1' xx2' fxx0' fxx1' fxx2' xy0' xy1' xy2' fxy0' fxy1' fxy2' xp0' xp1' xp2' fxp0' fxp1' fxp2'
      replace ka := ka'
      clear ka'
      replace kb := kb'
      clear kb'
      replace ks := ks'
      clear ks'
      replace kM := kM'
      clear kM'
      replace kS := kS'
      clear kS'
      replace kX := kX'
      clear kX'
      replace kY := kY'
      clear kY'
      replace kP := kP'
      clear kP'
      have m0 := ka.cell (i := 0) rfl
      have m1 := ka.cell (i := 1) rfl
      have m2 := ka.cell (i := 2) rfl
      have s0 := kb.cell (i := 0) rfl
      have s1 := kb.cell (i := 1) rfl
      have s2 := kb.cell (i := 2) rfl
      have t0 := ks.cell (i := 0) rfl
      have t1 := ks.cell (i := 1) rfl
      have t2 := ks.cell (i := 2) rfl
      have xm0 := kM.cell (i := 0) rfl
      have xm1 := kM.cell (i := 1) rfl
      have xm2 := kM.cell (i := 2) rfl
      have fxm0 := kM.frozen 0
      have fxm1 := kM.frozen 1
      have fxm2 := kM.frozen 2
      have xs0 := kS.cell (i := 0) rfl
      have xs1 := kS.cell (i := 1) rfl
      have xs2 := kS.cell (i := 2) rfl
      have fxs0 := kS.frozen 0
      have fxs1 := kS.frozen 1
      have fxs2 := kS.frozen 2
      have xx0 := kX.cell (i := 0) rfl
      have xx1 := kX.cell (i := 1) rfl
      have xx2 := kX.cell (i := 2) rfl
      have fxx0 := kX.frozen 0
      have fxx1 := kX.frozen 1
      have fxx2 := kX.frozen 2
      have xy0 := kY.cell (i := 0) rfl
      have xy1 := kY.cell (i := 1) rfl
      have xy2 := kY.cell (i := 2) rfl
      have fxy0 := kY.frozen 0
      have fxy1 := kY.frozen 1
      have fxy2 := kY.frozen 2
      have xp0 := kP.cell (i := 0) rfl
      have xp1 := kP.cell (i := 1) rfl
      have xp2 := kP.cell (i := 2) rfl
      have fxp0 := kP.frozen 0
      have fxp1 := kP.frozen 1
      have fxp2 := kP.frozen 2
      replace rM := row_below rM hb
      replace rS := row_below rS hb
      replace rX := row_below rX hb
      replace rY := row_below rY hb
      replace rP := row_below rP hb
      replace rQ := row_below rQ hb
      replace hB := hB.trans (hb.mono hB.size)
      clear hb
      have hcall := Erode_any pw ph a c n xs hn sw sh as' cs ns bits hbn _ (by omega) ((hr.below (Nat.le_refl _) hB).mono hB.size) (by omega) ((hrs.below (Nat.le_refl _) hB).mono hB.size)
      rw [hSU.out] at hcall
      refine hcall.mono ?_
      clear hcall
      rintro e V16 ⟨⟨v, hev, sl, hvl, hrow⟩, hb⟩
      have rU : V16.ownsRow w.heap.size 3 1 sl n ((U).map (Value.int .i64)) := row_base (row_len (k := (U).length) hlU.out hrow) hB.size
      obtain ⟨srUa, srUc, rfl⟩ := row_slice rU
      have he : e = .returned (.tuple #[.agg #[.int .i64 pw, .int .i64 ph, .slice srUa n srUc], .int .i64 0]) := by rw [hev, hvl]
      subst he
      clear hrow hev hvl
      clear m0 m1 m2 s0 s1 s2 t0 t1 t2 xm0 xm1 xm2 fxm0 fxm1 fxm2 xs0 xs1 xs2 fxs0 fxs1 fxs2 xx0 xx1 xx2 fxx0 fxx1 fxx2 xy0 xy1 xy2 fxy0 fxy1 fxy2 xp0 xp1 xp2 fxp0 fxp1 fxp2 xq0 xq1 xq2 fxq0 fxq1 fxq2
      replace ka := ka.below hb ka.lt
      replace kb := kb.below hb kb.lt
      replace ks := ks.below hb ks.lt
      replace kM := kM.below hb kM.lt
      replace kS := kS.below hb kS.lt
      replace kX := kX.below hb kX.lt
      replace kY := kY.below hb kY.lt
      replace kP := kP.below hb kP.lt
      replace kQ := kQ.below hb kQ.lt
      replace rM := row_below rM hb
      replace rS := row_below rS hb
      replace rX := row_below rX hb
      replace rY := row_below rY hb
      replace rP := row_below rP hb
      replace rQ := row_below rQ hb
      replace hB := hB.trans (hb.mono hB.size)
      have m0 := ka.cell (i := 0) rfl
      have m1 := ka.cell (i := 1) rfl
      have m2 := ka.cell (i := 2) rfl
      have s0 := kb.cell (i := 0) rfl
      have s1 := kb.cell (i := 1) rfl
      have s2 := kb.cell (i := 2) rfl
      have t0 := ks.cell (i := 0) rfl
      have t1 := ks.cell (i := 1) rfl
      have t2 := ks.cell (i := 2) rfl
      have xm0 := kM.cell (i := 0) rfl
      have xm1 := kM.cell (i := 1) rfl
      have xm2 := kM.cell (i := 2) rfl
      have fxm0 := kM.frozen 0
      have fxm1 := kM.frozen 1
      have fxm2 := kM.frozen 2
      have xs0 := kS.cell (i := 0) rfl
      have xs1 := kS.cell (i := 1) rfl
      have xs2 := kS.cell (i := 2) rfl
      have fxs0 := kS.frozen 0
      have fxs1 := kS.frozen 1
      have fxs2 := kS.frozen 2
      have xx0 := kX.cell (i := 0) rfl
      have xx1 := kX.cell (i := 1) rfl
      have xx2 := kX.cell (i := 2) rfl
      have fxx0 := kX.frozen 0
      have fxx1 := kX.frozen 1
      have fxx2 := kX.frozen 2
      have xy0 := kY.cell (i := 0) rfl
      have xy1 := kY.cell (i := 1) rfl
      have xy2 := kY.cell (i := 2) rfl
      have fxy0 := kY.frozen 0
      have fxy1 := kY.frozen 1
      have fxy2 := kY.frozen 2
      have xp0 := kP.cell (i := 0) rfl
      have xp1 := kP.cell (i := 1) rfl
      have xp2 := kP.cell (i := 2) rfl
      have fxp0 := kP.frozen 0
      have fxp1 := kP.frozen 1
      have fxp2 := kP.frozen 2
      have xq0 := kQ.cell (i := 0) rfl
      have xq1 := kQ.cell (i := 1) rfl
      have xq2 := kQ.cell (i := 2) rfl
      have fxq0 := kQ.frozen 0
      have fxq1 := kQ.frozen 1
      have fxq2 := kQ.frozen 2
      clear hb
      obtain ⟨V17, hW⟩ : ∃ V17, V16.alloc (.cells #[.int .i64 pw, .int .i64 ph, .slice srUa n srUc] 24) = V17 := ⟨_, rfl⟩
      obtain ⟨bkU, hbx⟩ : ∃ bkU, V16.heap.size = bkU := ⟨_, rfl⟩
      have kU := Blk.new V16 24 #[.int .i64 pw, .int .i64 ph, .slice srUa n srUc]
      rw [hW, hbx] at kU
      have hb : Below V16.heap.size V16 V17 := alloc_below hW
      have ka' := ka.below hb ka.lt
      have lkakU := ka.lt
      rw [hbx] at lkakU
      have kb' := kb.below hb kb.lt
      have lkbkU := kb.lt
      rw [hbx] at lkbkU
      have ks' := ks.below hb ks.lt
      have lkskU := ks.lt
      rw [hbx] at lkskU
      have kM' := kM.below hb kM.lt
      have lkMkU := kM.lt
      rw [hbx] at lkMkU
      have kS' := kS.below hb kS.lt
      have lkSkU := kS.lt
      rw [hbx] at lkSkU
      have kX' := kX.below hb kX.lt
      have lkXkU := kX.lt
      rw [hbx] at lkXkU
      have kY' := kY.below hb kY.lt
      have lkYkU := kY.lt
      rw [hbx] at lkYkU
      have kP' := kP.below hb kP.lt
      have lkPkU := kP.lt
      rw [hbx] at lkPkU
      have kQ' := kQ.below hb kQ.lt
      have lkQkU := kQ.lt
      rw [hbx] at lkQkU
      have m0' := ka'.cell (i := 0) rfl
      have m1' := ka'.cell (i := 1) rfl
      have m2' := ka'.cell (i := 2) rfl
      have s0' := kb'.cell (i := 0) rfl
      have s1' := kb'.cell (i := 1) rfl
      have s2' := kb'.cell (i := 2) rfl
      have t0' := ks'.cell (i := 0) rfl
      have t1' := ks'.cell (i := 1) rfl
      have t2' := ks'.cell (i := 2) rfl
      have xm0' := kM'.cell (i := 0) rfl
      have xm1' := kM'.cell (i := 1) rfl
      have xm2' := kM'.cell (i := 2) rfl
      have fxm0' := kM'.frozen 0
      have fxm1' := kM'.frozen 1
      have fxm2' := kM'.frozen 2
      have xs0' := kS'.cell (i := 0) rfl
      have xs1' := kS'.cell (i := 1) rfl
      have xs2' := kS'.cell (i := 2) rfl
      have fxs0' := kS'.frozen 0
      have fxs1' := kS'.frozen 1
      have fxs2' := kS'.frozen 2
      have xx0' := kX'.cell (i := 0) rfl
      have xx1' := kX'.cell (i := 1) rfl
      have xx2' := kX'.cell (i := 2) rfl
      have fxx0' := kX'.frozen 0
      have fxx1' := kX'.frozen 1
      have fxx2' := kX'.frozen 2
      have xy0' := kY'.cell (i := 0) rfl
      have xy1' := kY'.cell (i := 1) rfl
      have xy2' := kY'.cell (i := 2) rfl
      have fxy0' := kY'.frozen 0
      have fxy1' := kY'.frozen 1
      have fxy2' := kY'.frozen 2
      have xp0' := kP'.cell (i := 0) rfl
      have xp1' := kP'.cell (i := 1) rfl
      have xp2' := kP'.cell (i := 2) rfl
      have fxp0' := kP'.frozen 0
      have fxp1' := kP'.frozen 1
      have fxp2' := kP'.frozen 2
      have xq0' := kQ'.cell (i := 0) rfl
      have xq1' := kQ'.cell (i := 1) rfl
      have xq2' := kQ'.cell (i := 2) rfl
      have fxq0' := kQ'.frozen 0
      have fxq1' := kQ'.frozen 1
      have fxq2' := kQ'.frozen 2
      have xu0 := kU.cell (i := 0) rfl
      have xu1 := kU.cell (i := 1) rfl
      have xu2 := kU.cell (i := 2) rfl
      have fxu0 := kU.frozen 0
      have fxu1 := kU.frozen 1
      have fxu2 := kU.frozen 2
      go_wp2_with fail
      clear hW
      clear hbx
      clear m0 m1 m2 s0 s1 s2 t0 t1 t2 xm0 xm1 xm2 fxm0 fxm1 fxm2 xs0 xs1 xs2 fxs0 fxs1 fxs2 xx0 xx1 xx2 fxx0 fxx1 fxx2 xy0 xy1 xy2 fxy0 fxy1 fxy2 xp0 xp1 xp2 fxp0 fxp1 fxp2 xq0 xq1 xq2 fxq0 fxq1 fxq2
      clear m0' m1' m2' s0' s1' s2' t0' t1' t2' xm0' xm1' xm2' fxm0' fxm1' fxm2' xs0' xs1' xs2' fxs0' fxs1' fxs2' xx0' xx1' xx2' fxx0' fxx1' fxx2' xy0' xy1' xy2' fxy0' fxy1' fxy2' xp0' xp1' xp2' fxp0' fxp1' fxp2' xq0' xq1' xq2' fxq0' fxq1' fxq2'
      replace ka := ka'
      clear ka'
      replace kb := kb'
      clear kb'
      replace ks := ks'
      clear ks'
      replace kM := kM'
      clear kM'
      replace kS := kS'
      clear kS'
      replace kX := kX'
      clear kX'
      replace kY := kY'
      clear kY'
      replace kP := kP'
      clear kP'
      replace kQ := kQ'
      clear kQ'
      have m0 := ka.cell (i := 0) rfl
      have m1 := ka.cell (i := 1) rfl
      have m2 := ka.cell (i := 2) rfl
      have s0 := kb.cell (i := 0) rfl
      have s1 := kb.cell (i := 1) rfl
      have s2 := kb.cell (i := 2) rfl
      have t0 := ks.cell (i := 0) rfl
      have t1 := ks.cell (i := 1) rfl
      have t2 := ks.cell (i := 2) rfl
      have xm0 := kM.cell (i := 0) rfl
      have xm1 := kM.cell (i := 1) rfl
      have xm2 := kM.cell (i := 2) rfl
      have fxm0 := kM.frozen 0
      have fxm1 := kM.frozen 1
      have fxm2 := kM.frozen 2
      have xs0 := kS.cell (i := 0) rfl
      have xs1 := kS.cell (i := 1) rfl
      have xs2 := kS.cell (i := 2) rfl
      have fxs0 := kS.frozen 0
      have fxs1 := kS.frozen 1
      have fxs2 := kS.frozen 2
      have xx0 := kX.cell (i := 0) rfl
      have xx1 := kX.cell (i := 1) rfl
      have xx2 := kX.cell (i := 2) rfl
      have fxx0 := kX.frozen 0
      have fxx1 := kX.frozen 1
      have fxx2 := kX.frozen 2
      have xy0 := kY.cell (i := 0) rfl
      have xy1 := kY.cell (i := 1) rfl
      have xy2 := kY.cell (i := 2) rfl
      have fxy0 := kY.frozen 0
      have fxy1 := kY.frozen 1
      have fxy2 := kY.frozen 2
      have xp0 := kP.cell (i := 0) rfl
      have xp1 := kP.cell (i := 1) rfl
      have xp2 := kP.cell (i := 2) rfl
      have fxp0 := kP.frozen 0
      have fxp1 := kP.frozen 1
      have fxp2 := kP.frozen 2
      have xq0 := kQ.cell (i := 0) rfl
      have xq1 := kQ.cell (i := 1) rfl
      have xq2 := kQ.cell (i := 2) rfl
      have fxq0 := kQ.frozen 0
      have fxq1 := kQ.frozen 1
      have fxq2 := kQ.frozen 2
      replace rM := row_below rM hb
      replace rS := row_below rS hb
      replace rX := row_below rX hb
      replace rY := row_below rY hb
      replace rP := row_below rP hb
      replace rQ := row_below rQ hb
      replace rU := row_below rU hb
      replace hB := hB.trans (hb.mono hB.size)
      clear hb
      have hcall := Erode_any pw ph a' c' n ys hn' sw sh as' cs ns bits hbn _ (by omega) ((hr'.below (Nat.le_refl _) hB).mono hB.size) (by omega) ((hrs.below (Nat.le_refl _) hB).mono hB.size)
      rw [hSV.out] at hcall
      refine hcall.mono ?_
      clear hcall
      rintro e V18 ⟨⟨v, hev, sl, hvl, hrow⟩, hb⟩
      have rV : V18.ownsRow w.heap.size 3 1 sl n ((V).map (Value.int .i64)) := row_base (row_len (k := (V).length) hlV.out hrow) hB.size
      obtain ⟨srVa, srVc, rfl⟩ := row_slice rV
      have he : e = .returned (.tuple #[.agg #[.int .i64 pw, .int .i64 ph, .slice srVa n srVc], .int .i64 0]) := by rw [hev, hvl]
      subst he
      clear hrow hev hvl
      clear m0 m1 m2 s0 s1 s2 t0 t1 t2 xm0 xm1 xm2 fxm0 fxm1 fxm2 xs0 xs1 xs2 fxs0 fxs1 fxs2 xx0 xx1 xx2 fxx0 fxx1 fxx2 xy0 xy1 xy2 fxy0 fxy1 fxy2 xp0 xp1 xp2 fxp0 fxp1 fxp2 xq0 xq1 xq2 fxq0 fxq1 fxq2 xu0 xu1 xu2 fxu0 fxu1 fxu2
      replace ka := ka.below hb ka.lt
      replace kb := kb.below hb kb.lt
      replace ks := ks.below hb ks.lt
      replace kM := kM.below hb kM.lt
      replace kS := kS.below hb kS.lt
      replace kX := kX.below hb kX.lt
      replace kY := kY.below hb kY.lt
      replace kP := kP.below hb kP.lt
      replace kQ := kQ.below hb kQ.lt
      replace kU := kU.below hb kU.lt
      replace rM := row_below rM hb
      replace rS := row_below rS hb
      replace rX := row_below rX hb
      replace rY := row_below rY hb
      replace rP := row_below rP hb
      replace rQ := row_below rQ hb
      replace rU := row_below rU hb
      replace hB := hB.trans (hb.mono hB.size)
      have m0 := ka.cell (i := 0) rfl
      have m1 := ka.cell (i := 1) rfl
      have m2 := ka.cell (i := 2) rfl
      have s0 := kb.cell (i := 0) rfl
      have s1 := kb.cell (i := 1) rfl
      have s2 := kb.cell (i := 2) rfl
      have t0 := ks.cell (i := 0) rfl
      have t1 := ks.cell (i := 1) rfl
      have t2 := ks.cell (i := 2) rfl
      have xm0 := kM.cell (i := 0) rfl
      have xm1 := kM.cell (i := 1) rfl
      have xm2 := kM.cell (i := 2) rfl
      have fxm0 := kM.frozen 0
      have fxm1 := kM.frozen 1
      have fxm2 := kM.frozen 2
      have xs0 := kS.cell (i := 0) rfl
      have xs1 := kS.cell (i := 1) rfl
      have xs2 := kS.cell (i := 2) rfl
      have fxs0 := kS.frozen 0
      have fxs1 := kS.frozen 1
      have fxs2 := kS.frozen 2
      have xx0 := kX.cell (i := 0) rfl
      have xx1 := kX.cell (i := 1) rfl
      have xx2 := kX.cell (i := 2) rfl
      have fxx0 := kX.frozen 0
      have fxx1 := kX.frozen 1
      have fxx2 := kX.frozen 2
      have xy0 := kY.cell (i := 0) rfl
      have xy1 := kY.cell (i := 1) rfl
      have xy2 := kY.cell (i := 2) rfl
      have fxy0 := kY.frozen 0
      have fxy1 := kY.frozen 1
      have fxy2 := kY.frozen 2
      have xp0 := kP.cell (i := 0) rfl
      have xp1 := kP.cell (i := 1) rfl
      have xp2 := kP.cell (i := 2) rfl
      have fxp0 := kP.frozen 0
      have fxp1 := kP.frozen 1
      have fxp2 := kP.frozen 2
      have xq0 := kQ.cell (i := 0) rfl
      have xq1 := kQ.cell (i := 1) rfl
      have xq2 := kQ.cell (i := 2) rfl
      have fxq0 := kQ.frozen 0
      have fxq1 := kQ.frozen 1
      have fxq2 := kQ.frozen 2
      have xu0 := kU.cell (i := 0) rfl
      have xu1 := kU.cell (i := 1) rfl
      have xu2 := kU.cell (i := 2) rfl
      have fxu0 := kU.frozen 0
      have fxu1 := kU.frozen 1
      have fxu2 := kU.frozen 2
      clear hb
      obtain ⟨V19, hW⟩ : ∃ V19, V18.alloc (.cells #[.int .i64 pw, .int .i64 ph, .slice srVa n srVc] 24) = V19 := ⟨_, rfl⟩
      obtain ⟨bkV, hbx⟩ : ∃ bkV, V18.heap.size = bkV := ⟨_, rfl⟩
      have kV := Blk.new V18 24 #[.int .i64 pw, .int .i64 ph, .slice srVa n srVc]
      rw [hW, hbx] at kV
      have hb : Below V18.heap.size V18 V19 := alloc_below hW
      have ka' := ka.below hb ka.lt
      have lkakV := ka.lt
      rw [hbx] at lkakV
      have kb' := kb.below hb kb.lt
      have lkbkV := kb.lt
      rw [hbx] at lkbkV
      have ks' := ks.below hb ks.lt
      have lkskV := ks.lt
      rw [hbx] at lkskV
      have kM' := kM.below hb kM.lt
      have lkMkV := kM.lt
      rw [hbx] at lkMkV
      have kS' := kS.below hb kS.lt
      have lkSkV := kS.lt
      rw [hbx] at lkSkV
      have kX' := kX.below hb kX.lt
      have lkXkV := kX.lt
      rw [hbx] at lkXkV
      have kY' := kY.below hb kY.lt
      have lkYkV := kY.lt
      rw [hbx] at lkYkV
      have kP' := kP.below hb kP.lt
      have lkPkV := kP.lt
      rw [hbx] at lkPkV
      have kQ' := kQ.below hb kQ.lt
      have lkQkV := kQ.lt
      rw [hbx] at lkQkV
      have kU' := kU.below hb kU.lt
      have lkUkV := kU.lt
      rw [hbx] at lkUkV
      have m0' := ka'.cell (i := 0) rfl
      have m1' := ka'.cell (i := 1) rfl
      have m2' := ka'.cell (i := 2) rfl
      have s0' := kb'.cell (i := 0) rfl
      have s1' := kb'.cell (i := 1) rfl
      have s2' := kb'.cell (i := 2) rfl
      have t0' := ks'.cell (i := 0) rfl
      have t1' := ks'.cell (i := 1) rfl
      have t2' := ks'.cell (i := 2) rfl
      have xm0' := kM'.cell (i := 0) rfl
      have xm1' := kM'.cell (i := 1) rfl
      have xm2' := kM'.cell (i := 2) rfl
      have fxm0' := kM'.frozen 0
      have fxm1' := kM'.frozen 1
      have fxm2' := kM'.frozen 2
      have xs0' := kS'.cell (i := 0) rfl
      have xs1' := kS'.cell (i := 1) rfl
      have xs2' := kS'.cell (i := 2) rfl
      have fxs0' := kS'.frozen 0
      have fxs1' := kS'.frozen 1
      have fxs2' := kS'.frozen 2
      have xx0' := kX'.cell (i := 0) rfl
      have xx1' := kX'.cell (i := 1) rfl
      have xx2' := kX'.cell (i := 2) rfl
      have fxx0' := kX'.frozen 0
      have fxx1' := kX'.frozen 1
      have fxx2' := kX'.frozen 2
      have xy0' := kY'.cell (i := 0) rfl
      have xy1' := kY'.cell (i := 1) rfl
      have xy2' := kY'.cell (i := 2) rfl
      have fxy0' := kY'.frozen 0
      have fxy1' := kY'.frozen 1
      have fxy2' := kY'.frozen 2
      have xp0' := kP'.cell (i := 0) rfl
      have xp1' := kP'.cell (i := 1) rfl
      have xp2' := kP'.cell (i := 2) rfl
      have fxp0' := kP'.frozen 0
      have fxp1' := kP'.frozen 1
      have fxp2' := kP'.frozen 2
      have xq0' := kQ'.cell (i := 0) rfl
      have xq1' := kQ'.cell (i := 1) rfl
      have xq2' := kQ'.cell (i := 2) rfl
      have fxq0' := kQ'.frozen 0
      have fxq1' := kQ'.frozen 1
      have fxq2' := kQ'.frozen 2
      have xu0' := kU'.cell (i := 0) rfl
      have xu1' := kU'.cell (i := 1) rfl
      have xu2' := kU'.cell (i := 2) rfl
      have fxu0' := kU'.frozen 0
      have fxu1' := kU'.frozen 1
      have fxu2' := kU'.frozen 2
      have xv0 := kV.cell (i := 0) rfl
      have xv1 := kV.cell (i := 1) rfl
      have xv2 := kV.cell (i := 2) rfl
      have fxv0 := kV.frozen 0
      have fxv1 := kV.frozen 1
      have fxv2 := kV.frozen 2
      go_wp2_with fail
      clear hW
      clear hbx
      clear m0 m1 m2 s0 s1 s2 t0 t1 t2 xm0 xm1 xm2 fxm0 fxm1 fxm2 xs0 xs1 xs2 fxs0 fxs1 fxs2 xx0 xx1 xx2 fxx0 fxx1 fxx2 xy0 xy1 xy2 fxy0 fxy1 fxy2 xp0 xp1 xp2 fxp0 fxp1 fxp2 xq0 xq1 xq2 fxq0 fxq1 fxq2 xu0 xu1 xu2 fxu0 fxu1 fxu2
      clear m0' m1' m2' s0' s1' s2' t0' t1' t2' xm0' xm1' xm2' fxm0' fxm1' fxm2' xs0' xs1' xs2' fxs0' fxs1' fxs2' xx0' xx1' xx2' fxx0' fxx1' fxx2' xy0' xy1' xy2' fxy0' fxy1' fxy2' xp0' xp1' xp2' fxp0' fxp1' fxp2' xq0' xq1' xq2' fxq0' fxq1' fxq2' xu0' xu1' xu2' fxu0' fxu1' fxu2'
      replace ka := ka'
      clear ka'
      replace kb := kb'
      clear kb'
      replace ks := ks'
      clear ks'
      replace kM := kM'
      clear kM'
      replace kS := kS'
      clear kS'
      replace kX := kX'
      clear kX'
      replace kY := kY'
      clear kY'
      replace kP := kP'
      clear kP'
      replace kQ := kQ'
      clear kQ'
      replace kU := kU'
      clear kU'
      have m0 := ka.cell (i := 0) rfl
      have m1 := ka.cell (i := 1) rfl
      have m2 := ka.cell (i := 2) rfl
      have s0 := kb.cell (i := 0) rfl
      have s1 := kb.cell (i := 1) rfl
      have s2 := kb.cell (i := 2) rfl
      have t0 := ks.cell (i := 0) rfl
      have t1 := ks.cell (i := 1) rfl
      have t2 := ks.cell (i := 2) rfl
      have xm0 := kM.cell (i := 0) rfl
      have xm1 := kM.cell (i := 1) rfl
      have xm2 := kM.cell (i := 2) rfl
      have fxm0 := kM.frozen 0
      have fxm1 := kM.frozen 1
      have fxm2 := kM.frozen 2
      have xs0 := kS.cell (i := 0) rfl
      have xs1 := kS.cell (i := 1) rfl
      have xs2 := kS.cell (i := 2) rfl
      have fxs0 := kS.frozen 0
      have fxs1 := kS.frozen 1
      have fxs2 := kS.frozen 2
      have xx0 := kX.cell (i := 0) rfl
      have xx1 := kX.cell (i := 1) rfl
      have xx2 := kX.cell (i := 2) rfl
      have fxx0 := kX.frozen 0
      have fxx1 := kX.frozen 1
      have fxx2 := kX.frozen 2
      have xy0 := kY.cell (i := 0) rfl
      have xy1 := kY.cell (i := 1) rfl
      have xy2 := kY.cell (i := 2) rfl
      have fxy0 := kY.frozen 0
      have fxy1 := kY.frozen 1
      have fxy2 := kY.frozen 2
      have xp0 := kP.cell (i := 0) rfl
      have xp1 := kP.cell (i := 1) rfl
      have xp2 := kP.cell (i := 2) rfl
      have fxp0 := kP.frozen 0
      have fxp1 := kP.frozen 1
      have fxp2 := kP.frozen 2
      have xq0 := kQ.cell (i := 0) rfl
      have xq1 := kQ.cell (i := 1) rfl
      have xq2 := kQ.cell (i := 2) rfl
      have fxq0 := kQ.frozen 0
      have fxq1 := kQ.frozen 1
      have fxq2 := kQ.frozen 2
      have xu0 := kU.cell (i := 0) rfl
      have xu1 := kU.cell (i := 1) rfl
      have xu2 := kU.cell (i := 2) rfl
      have fxu0 := kU.frozen 0
      have fxu1 := kU.frozen 1
      have fxu2 := kU.frozen 2
      replace rM := row_below rM hb
      replace rS := row_below rS hb
      replace rX := row_below rX hb
      replace rY := row_below rY hb
      replace rP := row_below rP hb
      replace rQ := row_below rQ hb
      replace rU := row_below rU hb
      replace rV := row_below rV hb
      replace hB := hB.trans (hb.mono hB.size)
      clear hb
      have hcall := Zip_any pw ph srPa srPc n P hlP pw ph srQa srQc n Q hlQ 4 (by decide) (by decide) _ (by omega) (by omega) (row_rd' hlP.out rP) (row_rd' hlQ.out rQ)
      rw [hSZ.out] at hcall
      refine hcall.mono ?_
      clear hcall
      rintro e V20 ⟨⟨v, hev, sl, hvl, hrow⟩, hb⟩
      have rZ : V20.ownsRow w.heap.size 3 1 sl n ((X).map (Value.int .i64)) := row_base (row_len (k := (X).length) hlZ.out hrow) hB.size
      obtain ⟨srZa, srZc, rfl⟩ := row_slice rZ
      have he : e = .returned (.tuple #[.agg #[.int .i64 pw, .int .i64 ph, .slice srZa n srZc], .int .i64 0]) := by rw [hev, hvl]
      subst he
      clear hrow hev hvl
      clear m0 m1 m2 s0 s1 s2 t0 t1 t2 xm0 xm1 xm2 fxm0 fxm1 fxm2 xs0 xs1 xs2 fxs0 fxs1 fxs2 xx0 xx1 xx2 fxx0 fxx1 fxx2 xy0 xy1 xy2 fxy0 fxy1 fxy2 xp0 xp1 xp2 fxp0 fxp1 fxp2 xq0 xq1 xq2 fxq0 fxq1 fxq2 xu0 xu1 xu2 fxu0 fxu1 fxu2 xv0 xv1 xv2 fxv0 fxv1 fxv2
      replace ka := ka.below hb ka.lt
      replace kb := kb.below hb kb.lt
      replace ks := ks.below hb ks.lt
      replace kM := kM.below hb kM.lt
      replace kS := kS.below hb kS.lt
      replace kX := kX.below hb kX.lt
      replace kY := kY.below hb kY.lt
      replace kP := kP.below hb kP.lt
      replace kQ := kQ.below hb kQ.lt
      replace kU := kU.below hb kU.lt
      replace kV := kV.below hb kV.lt
      replace rM := row_below rM hb
      replace rS := row_below rS hb
      replace rX := row_below rX hb
      replace rY := row_below rY hb
      replace rP := row_below rP hb
      replace rQ := row_below rQ hb
      replace rU := row_below rU hb
      replace rV := row_below rV hb
      replace hB := hB.trans (hb.mono hB.size)
      have m0 := ka.cell (i := 0) rfl
      have m1 := ka.cell (i := 1) rfl
      have m2 := ka.cell (i := 2) rfl
      have s0 := kb.cell (i := 0) rfl
      have s1 := kb.cell (i := 1) rfl
      have s2 := kb.cell (i := 2) rfl
      have t0 := ks.cell (i := 0) rfl
      have t1 := ks.cell (i := 1) rfl
      have t2 := ks.cell (i := 2) rfl
      have xm0 := kM.cell (i := 0) rfl
      have xm1 := kM.cell (i := 1) rfl
      have xm2 := kM.cell (i := 2) rfl
      have fxm0 := kM.frozen 0
      have fxm1 := kM.frozen 1
      have fxm2 := kM.frozen 2
      have xs0 := kS.cell (i := 0) rfl
      have xs1 := kS.cell (i := 1) rfl
      have xs2 := kS.cell (i := 2) rfl
      have fxs0 := kS.frozen 0
      have fxs1 := kS.frozen 1
      have fxs2 := kS.frozen 2
      have xx0 := kX.cell (i := 0) rfl
      have xx1 := kX.cell (i := 1) rfl
      have xx2 := kX.cell (i := 2) rfl
      have fxx0 := kX.frozen 0
      have fxx1 := kX.frozen 1
      have fxx2 := kX.frozen 2
      have xy0 := kY.cell (i := 0) rfl
      have xy1 := kY.cell (i := 1) rfl
      have xy2 := kY.cell (i := 2) rfl
      have fxy0 := kY.frozen 0
      have fxy1 := kY.frozen 1
      have fxy2 := kY.frozen 2
      have xp0 := kP.cell (i := 0) rfl
      have xp1 := kP.cell (i := 1) rfl
      have xp2 := kP.cell (i := 2) rfl
      have fxp0 := kP.frozen 0
      have fxp1 := kP.frozen 1
      have fxp2 := kP.frozen 2
      have xq0 := kQ.cell (i := 0) rfl
      have xq1 := kQ.cell (i := 1) rfl
      have xq2 := kQ.cell (i := 2) rfl
      have fxq0 := kQ.frozen 0
      have fxq1 := kQ.frozen 1
      have fxq2 := kQ.frozen 2
      have xu0 := kU.cell (i := 0) rfl
      have xu1 := kU.cell (i := 1) rfl
      have xu2 := kU.cell (i := 2) rfl
      have fxu0 := kU.frozen 0
      have fxu1 := kU.frozen 1
      have fxu2 := kU.frozen 2
      have xv0 := kV.cell (i := 0) rfl
      have xv1 := kV.cell (i := 1) rfl
      have xv2 := kV.cell (i := 2) rfl
      have fxv0 := kV.frozen 0
      have fxv1 := kV.frozen 1
      have fxv2 := kV.frozen 2
      clear hb
      obtain ⟨V21, hW⟩ : ∃ V21, V20.alloc (.cells #[.int .i64 pw, .int .i64 ph, .slice srZa n srZc] 24) = V21 := ⟨_, rfl⟩
      obtain ⟨bkZ, hbx⟩ : ∃ bkZ, V20.heap.size = bkZ := ⟨_, rfl⟩
      have kZ := Blk.new V20 24 #[.int .i64 pw, .int .i64 ph, .slice srZa n srZc]
      rw [hW, hbx] at kZ
      have hb : Below V20.heap.size V20 V21 := alloc_below hW
      have ka' := ka.below hb ka.lt
      have lkakZ := ka.lt
      rw [hbx] at lkakZ
      have kb' := kb.below hb kb.lt
      have lkbkZ := kb.lt
      rw [hbx] at lkbkZ
      have ks' := ks.below hb ks.lt
      have lkskZ := ks.lt
      rw [hbx] at lkskZ
      have kM' := kM.below hb kM.lt
      have lkMkZ := kM.lt
      rw [hbx] at lkMkZ
      have kS' := kS.below hb kS.lt
      have lkSkZ := kS.lt
      rw [hbx] at lkSkZ
      have kX' := kX.below hb kX.lt
      have lkXkZ := kX.lt
      rw [hbx] at lkXkZ
      have kY' := kY.below hb kY.lt
      have lkYkZ := kY.lt
      rw [hbx] at lkYkZ
      have kP' := kP.below hb kP.lt
      have lkPkZ := kP.lt
      rw [hbx] at lkPkZ
      have kQ' := kQ.below hb kQ.lt
      have lkQkZ := kQ.lt
      rw [hbx] at lkQkZ
      have kU' := kU.below hb kU.lt
      have lkUkZ := kU.lt
      rw [hbx] at lkUkZ
      have kV' := kV.below hb kV.lt
      have lkVkZ := kV.lt
      rw [hbx] at lkVkZ
      have m0' := ka'.cell (i := 0) rfl
      have m1' := ka'.cell (i := 1) rfl
      have m2' := ka'.cell (i := 2) rfl
      have s0' := kb'.cell (i := 0) rfl
      have s1' := kb'.cell (i := 1) rfl
      have s2' := kb'.cell (i := 2) rfl
      have t0' := ks'.cell (i := 0) rfl
      have t1' := ks'.cell (i := 1) rfl
      have t2' := ks'.cell (i := 2) rfl
      have xm0' := kM'.cell (i := 0) rfl
      have xm1' := kM'.cell (i := 1) rfl
      have xm2' := kM'.cell (i := 2) rfl
      have fxm0' := kM'.frozen 0
      have fxm1' := kM'.frozen 1
      have fxm2' := kM'.frozen 2
      have xs0' := kS'.cell (i := 0) rfl
      have xs1' := kS'.cell (i := 1) rfl
      have xs2' := kS'.cell (i := 2) rfl
      have fxs0' := kS'.frozen 0
      have fxs1' := kS'.frozen 1
      have fxs2' := kS'.frozen 2
      have xx0' := kX'.cell (i := 0) rfl
      have xx1' := kX'.cell (i := 1) rfl
      have xx2' := kX'.cell (i := 2) rfl
      have fxx0' := kX'.frozen 0
      have fxx1' := kX'.frozen 1
      have fxx2' := kX'.frozen 2
      have xy0' := kY'.cell (i := 0) rfl
      have xy1' := kY'.cell (i := 1) rfl
      have xy2' := kY'.cell (i := 2) rfl
      have fxy0' := kY'.frozen 0
      have fxy1' := kY'.frozen 1
      have fxy2' := kY'.frozen 2
      have xp0' := kP'.cell (i := 0) rfl
      have xp1' := kP'.cell (i := 1) rfl
      have xp2' := kP'.cell (i := 2) rfl
      have fxp0' := kP'.frozen 0
      have fxp1' := kP'.frozen 1
      have fxp2' := kP'.frozen 2
      have xq0' := kQ'.cell (i := 0) rfl
      have xq1' := kQ'.cell (i := 1) rfl
      have xq2' := kQ'.cell (i := 2) rfl
      have fxq0' := kQ'.frozen 0
      have fxq1' := kQ'.frozen 1
      have fxq2' := kQ'.frozen 2
      have xu0' := kU'.cell (i := 0) rfl
      have xu1' := kU'.cell (i := 1) rfl
      have xu2' := kU'.cell (i := 2) rfl
      have fxu0' := kU'.frozen 0
      have fxu1' := kU'.frozen 1
      have fxu2' := kU'.frozen 2
      have xv0' := kV'.cell (i := 0) rfl
      have xv1' := kV'.cell (i := 1) rfl
      have xv2' := kV'.cell (i := 2) rfl
      have fxv0' := kV'.frozen 0
      have fxv1' := kV'.frozen 1
      have fxv2' := kV'.frozen 2
      have xz0 := kZ.cell (i := 0) rfl
      have xz1 := kZ.cell (i := 1) rfl
      have xz2 := kZ.cell (i := 2) rfl
      have fxz0 := kZ.frozen 0
      have fxz1 := kZ.frozen 1
      have fxz2 := kZ.frozen 2
      go_wp2_with fail
      clear hW
      clear hbx
      clear m0 m1 m2 s0 s1 s2 t0 t1 t2 xm0 xm1 xm2 fxm0 fxm1 fxm2 xs0 xs1 xs2 fxs0 fxs1 fxs2 xx0 xx1 xx2 fxx0 fxx1 fxx2 xy0 xy1 xy2 fxy0 fxy1 fxy2 xp0 xp1 xp2 fxp0 fxp1 fxp2 xq0 xq1 xq2 fxq0 fxq1 fxq2 xu0 xu1 xu2 fxu0 fxu1 fxu2 xv0 xv1 xv2 fxv0 fxv1 fxv2
      clear m0' m1' m2' s0' s1' s2' t0' t1' t2' xm0' xm1' xm2' fxm0' fxm1' fxm2' xs0' xs1' xs2' fxs0' fxs1' fxs2' xx0' xx1' xx2' fxx0' fxx1' fxx2' xy0' xy1' xy2' fxy0' fxy1' fxy2' xp0' xp1' xp2' fxp0' fxp1' fxp2' xq0' xq1' xq2' fxq0' fxq1' fxq2' xu0' xu1' xu2' fxu0' fxu1' fxu2' xv0' xv1' xv2' fxv0' fxv1' fxv2'
      replace ka := ka'
      clear ka'
      replace kb := kb'
      clear kb'
      replace ks := ks'
      clear ks'
      replace kM := kM'
      clear kM'
      replace kS := kS'
      clear kS'
      replace kX := kX'
      clear kX'
      replace kY := kY'
      clear kY'
      replace kP := kP'
      clear kP'
      replace kQ := kQ'
      clear kQ'
      replace kU := kU'
      clear kU'
      replace kV := kV'
      clear kV'
      have m0 := ka.cell (i := 0) rfl
      have m1 := ka.cell (i := 1) rfl
      have m2 := ka.cell (i := 2) rfl
      have s0 := kb.cell (i := 0) rfl
      have s1 := kb.cell (i := 1) rfl
      have s2 := kb.cell (i := 2) rfl
      have t0 := ks.cell (i := 0) rfl
      have t1 := ks.cell (i := 1) rfl
      have t2 := ks.cell (i := 2) rfl
      have xm0 := kM.cell (i := 0) rfl
      have xm1 := kM.cell (i := 1) rfl
      have xm2 := kM.cell (i := 2) rfl
      have fxm0 := kM.frozen 0
      have fxm1 := kM.frozen 1
      have fxm2 := kM.frozen 2
      have xs0 := kS.cell (i := 0) rfl
      have xs1 := kS.cell (i := 1) rfl
      have xs2 := kS.cell (i := 2) rfl
      have fxs0 := kS.frozen 0
      have fxs1 := kS.frozen 1
      have fxs2 := kS.frozen 2
      have xx0 := kX.cell (i := 0) rfl
      have xx1 := kX.cell (i := 1) rfl
      have xx2 := kX.cell (i := 2) rfl
      have fxx0 := kX.frozen 0
      have fxx1 := kX.frozen 1
      have fxx2 := kX.frozen 2
      have xy0 := kY.cell (i := 0) rfl
      have xy1 := kY.cell (i := 1) rfl
      have xy2 := kY.cell (i := 2) rfl
      have fxy0 := kY.frozen 0
      have fxy1 := kY.frozen 1
      have fxy2 := kY.frozen 2
      have xp0 := kP.cell (i := 0) rfl
      have xp1 := kP.cell (i := 1) rfl
      have xp2 := kP.cell (i := 2) rfl
      have fxp0 := kP.frozen 0
      have fxp1 := kP.frozen 1
      have fxp2 := kP.frozen 2
      have xq0 := kQ.cell (i := 0) rfl
      have xq1 := kQ.cell (i := 1) rfl
      have xq2 := kQ.cell (i := 2) rfl
      have fxq0 := kQ.frozen 0
      have fxq1 := kQ.frozen 1
      have fxq2 := kQ.frozen 2
      have xu0 := kU.cell (i := 0) rfl
      have xu1 := kU.cell (i := 1) rfl
      have xu2 := kU.cell (i := 2) rfl
      have fxu0 := kU.frozen 0
      have fxu1 := kU.frozen 1
      have fxu2 := kU.frozen 2
      have xv0 := kV.cell (i := 0) rfl
      have xv1 := kV.cell (i := 1) rfl
      have xv2 := kV.cell (i := 2) rfl
      have fxv0 := kV.frozen 0
      have fxv1 := kV.frozen 1
      have fxv2 := kV.frozen 2
      replace rM := row_below rM hb
      replace rS := row_below rS hb
      replace rX := row_below rX hb
      replace rY := row_below rY hb
      replace rP := row_below rP hb
      replace rQ := row_below rQ hb
      replace rU := row_below rU hb
      replace rV := row_below rV hb
      replace rZ := row_below rZ hb
      replace hB := hB.trans (hb.mono hB.size)
      clear hb
      have hcall := Zip_any pw ph srUa srUc n U hlU pw ph srVa srVc n V hlV 3 (by decide) (by decide) _ (by omega) (by omega) (row_rd' hlU.out rU) (row_rd' hlV.out rV)
      rw [hSO.out] at hcall
      refine hcall.mono ?_
      clear hcall
      rintro e V22 ⟨⟨v, hev, sl, hvl, hrow⟩, hb⟩
      have rO : V22.ownsRow w.heap.size 3 1 sl n ((Y).map (Value.int .i64)) := row_base (row_len (k := (Y).length) hlO.out hrow) hB.size
      obtain ⟨srOa, srOc, rfl⟩ := row_slice rO
      have he : e = .returned (.tuple #[.agg #[.int .i64 pw, .int .i64 ph, .slice srOa n srOc], .int .i64 0]) := by rw [hev, hvl]
      subst he
      clear hrow hev hvl
      clear m0 m1 m2 s0 s1 s2 t0 t1 t2 xm0 xm1 xm2 fxm0 fxm1 fxm2 xs0 xs1 xs2 fxs0 fxs1 fxs2 xx0 xx1 xx2 fxx0 fxx1 fxx2 xy0 xy1 xy2 fxy0 fxy1 fxy2 xp0 xp1 xp2 fxp0 fxp1 fxp2 xq0 xq1 xq2 fxq0 fxq1 fxq2 xu0 xu1 xu2 fxu0 fxu1 fxu2 xv0 xv1 xv2 fxv0 fxv1 fxv2 xz0 xz1 xz2 fxz0 fxz1 fxz2
      replace ka := ka.below hb ka.lt
      replace kb := kb.below hb kb.lt
      replace ks := ks.below hb ks.lt
      replace kM := kM.below hb kM.lt
      replace kS := kS.below hb kS.lt
      replace kX := kX.below hb kX.lt
      replace kY := kY.below hb kY.lt
      replace kP := kP.below hb kP.lt
      replace kQ := kQ.below hb kQ.lt
      replace kU := kU.below hb kU.lt
      replace kV := kV.below hb kV.lt
      replace kZ := kZ.below hb kZ.lt
      replace rM := row_below rM hb
      replace rS := row_below rS hb
      replace rX := row_below rX hb
      replace rY := row_below rY hb
      replace rP := row_below rP hb
      replace rQ := row_below rQ hb
      replace rU := row_below rU hb
      replace rV := row_below rV hb
      replace rZ := row_below rZ hb
      replace hB := hB.trans (hb.mono hB.size)
      have m0 := ka.cell (i := 0) rfl
      have m1 := ka.cell (i := 1) rfl
      have m2 := ka.cell (i := 2) rfl
      have s0 := kb.cell (i := 0) rfl
      have s1 := kb.cell (i := 1) rfl
      have s2 := kb.cell (i := 2) rfl
      have t0 := ks.cell (i := 0) rfl
      have t1 := ks.cell (i := 1) rfl
      have t2 := ks.cell (i := 2) rfl
      have xm0 := kM.cell (i := 0) rfl
      have xm1 := kM.cell (i := 1) rfl
      have xm2 := kM.cell (i := 2) rfl
      have fxm0 := kM.frozen 0
      have fxm1 := kM.frozen 1
      have fxm2 := kM.frozen 2
      have xs0 := kS.cell (i := 0) rfl
      have xs1 := kS.cell (i := 1) rfl
      have xs2 := kS.cell (i := 2) rfl
      have fxs0 := kS.frozen 0
      have fxs1 := kS.frozen 1
      have fxs2 := kS.frozen 2
      have xx0 := kX.cell (i := 0) rfl
      have xx1 := kX.cell (i := 1) rfl
      have xx2 := kX.cell (i := 2) rfl
      have fxx0 := kX.frozen 0
      have fxx1 := kX.frozen 1
      have fxx2 := kX.frozen 2
      have xy0 := kY.cell (i := 0) rfl
      have xy1 := kY.cell (i := 1) rfl
      have xy2 := kY.cell (i := 2) rfl
      have fxy0 := kY.frozen 0
      have fxy1 := kY.frozen 1
      have fxy2 := kY.frozen 2
      have xp0 := kP.cell (i := 0) rfl
      have xp1 := kP.cell (i := 1) rfl
      have xp2 := kP.cell (i := 2) rfl
      have fxp0 := kP.frozen 0
      have fxp1 := kP.frozen 1
      have fxp2 := kP.frozen 2
      have xq0 := kQ.cell (i := 0) rfl
      have xq1 := kQ.cell (i := 1) rfl
      have xq2 := kQ.cell (i := 2) rfl
      have fxq0 := kQ.frozen 0
      have fxq1 := kQ.frozen 1
      have fxq2 := kQ.frozen 2
      have xu0 := kU.cell (i := 0) rfl
      have xu1 := kU.cell (i := 1) rfl
      have xu2 := kU.cell (i := 2) rfl
      have fxu0 := kU.frozen 0
      have fxu1 := kU.frozen 1
      have fxu2 := kU.frozen 2
      have xv0 := kV.cell (i := 0) rfl
      have xv1 := kV.cell (i := 1) rfl
      have xv2 := kV.cell (i := 2) rfl
      have fxv0 := kV.frozen 0
      have fxv1 := kV.frozen 1
      have fxv2 := kV.frozen 2
      have xz0 := kZ.cell (i := 0) rfl
      have xz1 := kZ.cell (i := 1) rfl
      have xz2 := kZ.cell (i := 2) rfl
      have fxz0 := kZ.frozen 0
      have fxz1 := kZ.frozen 1
      have fxz2 := kZ.frozen 2
      clear hb
      obtain ⟨V23, hW⟩ : ∃ V23, V22.alloc (.cells #[.int .i64 pw, .int .i64 ph, .slice srOa n srOc] 24) = V23 := ⟨_, rfl⟩
      obtain ⟨bkO, hbx⟩ : ∃ bkO, V22.heap.size = bkO := ⟨_, rfl⟩
      have kO := Blk.new V22 24 #[.int .i64 pw, .int .i64 ph, .slice srOa n srOc]
      rw [hW, hbx] at kO
      have hb : Below V22.heap.size V22 V23 := alloc_below hW
      have ka' := ka.below hb ka.lt
      have lkakO := ka.lt
      rw [hbx] at lkakO
      have kb' := kb.below hb kb.lt
      have lkbkO := kb.lt
      rw [hbx] at lkbkO
      have ks' := ks.below hb ks.lt
      have lkskO := ks.lt
      rw [hbx] at lkskO
      have kM' := kM.below hb kM.lt
      have lkMkO := kM.lt
      rw [hbx] at lkMkO
      have kS' := kS.below hb kS.lt
      have lkSkO := kS.lt
      rw [hbx] at lkSkO
      have kX' := kX.below hb kX.lt
      have lkXkO := kX.lt
      rw [hbx] at lkXkO
      have kY' := kY.below hb kY.lt
      have lkYkO := kY.lt
      rw [hbx] at lkYkO
      have kP' := kP.below hb kP.lt
      have lkPkO := kP.lt
      rw [hbx] at lkPkO
      have kQ' := kQ.below hb kQ.lt
      have lkQkO := kQ.lt
      rw [hbx] at lkQkO
      have kU' := kU.below hb kU.lt
      have lkUkO := kU.lt
      rw [hbx] at lkUkO
      have kV' := kV.below hb kV.lt
      have lkVkO := kV.lt
      rw [hbx] at lkVkO
      have kZ' := kZ.below hb kZ.lt
      have lkZkO := kZ.lt
      rw [hbx] at lkZkO
      have m0' := ka'.cell (i := 0) rfl
      have m1' := ka'.cell (i := 1) rfl
      have m2' := ka'.cell (i := 2) rfl
      have s0' := kb'.cell (i := 0) rfl
      have s1' := kb'.cell (i := 1) rfl
      have s2' := kb'.cell (i := 2) rfl
      have t0' := ks'.cell (i := 0) rfl
      have t1' := ks'.cell (i := 1) rfl
      have t2' := ks'.cell (i := 2) rfl
      have xm0' := kM'.cell (i := 0) rfl
      have xm1' := kM'.cell (i := 1) rfl
      have xm2' := kM'.cell (i := 2) rfl
      have fxm0' := kM'.frozen 0
      have fxm1' := kM'.frozen 1
      have fxm2' := kM'.frozen 2
      have xs0' := kS'.cell (i := 0) rfl
      have xs1' := kS'.cell (i := 1) rfl
      have xs2' := kS'.cell (i := 2) rfl
      have fxs0' := kS'.frozen 0
      have fxs1' := kS'.frozen 1
      have fxs2' := kS'.frozen 2
      have xx0' := kX'.cell (i := 0) rfl
      have xx1' := kX'.cell (i := 1) rfl
      have xx2' := kX'.cell (i := 2) rfl
      have fxx0' := kX'.frozen 0
      have fxx1' := kX'.frozen 1
      have fxx2' := kX'.frozen 2
      have xy0' := kY'.cell (i := 0) rfl
      have xy1' := kY'.cell (i := 1) rfl
      have xy2' := kY'.cell (i := 2) rfl
      have fxy0' := kY'.frozen 0
      have fxy1' := kY'.frozen 1
      have fxy2' := kY'.frozen 2
      have xp0' := kP'.cell (i := 0) rfl
      have xp1' := kP'.cell (i := 1) rfl
      have xp2' := kP'.cell (i := 2) rfl
      have fxp0' := kP'.frozen 0
      have fxp1' := kP'.frozen 1
      have fxp2' := kP'.frozen 2
      have xq0' := kQ'.cell (i := 0) rfl
      have xq1' := kQ'.cell (i := 1) rfl
      have xq2' := kQ'.cell (i := 2) rfl
      have fxq0' := kQ'.frozen 0
      have fxq1' := kQ'.frozen 1
      have fxq2' := kQ'.frozen 2
      have xu0' := kU'.cell (i := 0) rfl
      have xu1' := kU'.cell (i := 1) rfl
      have xu2' := kU'.cell (i := 2) rfl
      have fxu0' := kU'.frozen 0
      have fxu1' := kU'.frozen 1
      have fxu2' := kU'.frozen 2
      have xv0' := kV'.cell (i := 0) rfl
      have xv1' := kV'.cell (i := 1) rfl
      have xv2' := kV'.cell (i := 2) rfl
      have fxv0' := kV'.frozen 0
      have fxv1' := kV'.frozen 1
      have fxv2' := kV'.frozen 2
      have xz0' := kZ'.cell (i := 0) rfl
      have xz1' := kZ'.cell (i := 1) rfl
      have xz2' := kZ'.cell (i := 2) rfl
      have fxz0' := kZ'.frozen 0
      have fxz1' := kZ'.frozen 1
      have fxz2' := kZ'.frozen 2
      have xo0 := kO.cell (i := 0) rfl
      have xo1 := kO.cell (i := 1) rfl
      have xo2 := kO.cell (i := 2) rfl
      have fxo0 := kO.frozen 0
      have fxo1 := kO.frozen 1
      have fxo2 := kO.frozen 2
      go_wp2_with fail
      clear hW
      clear hbx
      clear m0 m1 m2 s0 s1 s2 t0 t1 t2 xm0 xm1 xm2 fxm0 fxm1 fxm2 xs0 xs1 xs2 fxs0 fxs1 fxs2 xx0 xx1 xx2 fxx0 fxx1 fxx2 xy0 xy1 xy2 fxy0 fxy1 fxy2 xp0 xp1 xp2 fxp0 fxp1 fxp2 xq0 xq1 xq2 fxq0 fxq1 fxq2 xu0 xu1 xu2 fxu0 fxu1 fxu2 xv0 xv1 xv2 fxv0 fxv1 fxv2 xz0 xz1 xz2 fxz0 fxz1 fxz2
      clear m0' m1' m2' s0' s1' s2' t0' t1' t2' xm0' xm1' xm2' fxm0' fxm1' fxm2' xs0' xs1' xs2' fxs0' fxs1' fxs2' xx0' xx1' xx2' fxx0' fxx1' fxx2' xy0' xy1' xy2' fxy0' fxy1' fxy2' xp0' xp1' xp2' fxp0' fxp1' fxp2' xq0' xq1' xq2' fxq0' fxq1' fxq2' xu0' xu1' xu2' fxu0' fxu1' fxu2' xv0' xv1' xv2' fxv0' fxv1' fxv2' xz0' xz1' xz2' fxz0' fxz1' fxz2'
      replace ka := ka'
      clear ka'
      replace kb := kb'
      clear kb'
      replace ks := ks'
      clear ks'
      replace kM := kM'
      clear kM'
      replace kS := kS'
      clear kS'
      replace kX := kX'
      clear kX'
      replace kY := kY'
      clear kY'
      replace kP := kP'
      clear kP'
      replace kQ := kQ'
      clear kQ'
      replace kU := kU'
      clear kU'
      replace kV := kV'
      clear kV'
      replace kZ := kZ'
      clear kZ'
      have m0 := ka.cell (i := 0) rfl
      have m1 := ka.cell (i := 1) rfl
      have m2 := ka.cell (i := 2) rfl
      have s0 := kb.cell (i := 0) rfl
      have s1 := kb.cell (i := 1) rfl
      have s2 := kb.cell (i := 2) rfl
      have t0 := ks.cell (i := 0) rfl
      have t1 := ks.cell (i := 1) rfl
      have t2 := ks.cell (i := 2) rfl
      have xm0 := kM.cell (i := 0) rfl
      have xm1 := kM.cell (i := 1) rfl
      have xm2 := kM.cell (i := 2) rfl
      have fxm0 := kM.frozen 0
      have fxm1 := kM.frozen 1
      have fxm2 := kM.frozen 2
      have xs0 := kS.cell (i := 0) rfl
      have xs1 := kS.cell (i := 1) rfl
      have xs2 := kS.cell (i := 2) rfl
      have fxs0 := kS.frozen 0
      have fxs1 := kS.frozen 1
      have fxs2 := kS.frozen 2
      have xx0 := kX.cell (i := 0) rfl
      have xx1 := kX.cell (i := 1) rfl
      have xx2 := kX.cell (i := 2) rfl
      have fxx0 := kX.frozen 0
      have fxx1 := kX.frozen 1
      have fxx2 := kX.frozen 2
      have xy0 := kY.cell (i := 0) rfl
      have xy1 := kY.cell (i := 1) rfl
      have xy2 := kY.cell (i := 2) rfl
      have fxy0 := kY.frozen 0
      have fxy1 := kY.frozen 1
      have fxy2 := kY.frozen 2
      have xp0 := kP.cell (i := 0) rfl
      have xp1 := kP.cell (i := 1) rfl
      have xp2 := kP.cell (i := 2) rfl
      have fxp0 := kP.frozen 0
      have fxp1 := kP.frozen 1
      have fxp2 := kP.frozen 2
      have xq0 := kQ.cell (i := 0) rfl
      have xq1 := kQ.cell (i := 1) rfl
      have xq2 := kQ.cell (i := 2) rfl
      have fxq0 := kQ.frozen 0
      have fxq1 := kQ.frozen 1
      have fxq2 := kQ.frozen 2
      have xu0 := kU.cell (i := 0) rfl
      have xu1 := kU.cell (i := 1) rfl
      have xu2 := kU.cell (i := 2) rfl
      have fxu0 := kU.frozen 0
      have fxu1 := kU.frozen 1
      have fxu2 := kU.frozen 2
      have xv0 := kV.cell (i := 0) rfl
      have xv1 := kV.cell (i := 1) rfl
      have xv2 := kV.cell (i := 2) rfl
      have fxv0 := kV.frozen 0
      have fxv1 := kV.frozen 1
      have fxv2 := kV.frozen 2
      have xz0 := kZ.cell (i := 0) rfl
      have xz1 := kZ.cell (i := 1) rfl
      have xz2 := kZ.cell (i := 2) rfl
      have fxz0 := kZ.frozen 0
      have fxz1 := kZ.frozen 1
      have fxz2 := kZ.frozen 2
      replace rM := row_below rM hb
      replace rS := row_below rS hb
      replace rX := row_below rX hb
      replace rY := row_below rY hb
      replace rP := row_below rP hb
      replace rQ := row_below rQ hb
      replace rU := row_below rU hb
      replace rV := row_below rV hb
      replace rZ := row_below rZ hb
      replace rO := row_below rO hb
      replace hB := hB.trans (hb.mono hB.size)
      clear hb
      refine (Same_eq pw ph srXa srZa srXc srZc n X hlX _ (by omega) (row_rd' hlX.out rX) (row_rd' hlX.out rZ)).mono ?_
      rintro e V24 ⟨rfl, hb⟩
      clear m0 m1 m2 s0 s1 s2 t0 t1 t2 xm0 xm1 xm2 fxm0 fxm1 fxm2 xs0 xs1 xs2 fxs0 fxs1 fxs2 xx0 xx1 xx2 fxx0 fxx1 fxx2 xy0 xy1 xy2 fxy0 fxy1 fxy2 xp0 xp1 xp2 fxp0 fxp1 fxp2 xq0 xq1 xq2 fxq0 fxq1 fxq2 xu0 xu1 xu2 fxu0 fxu1 fxu2 xv0 xv1 xv2 fxv0 fxv1 fxv2 xz0 xz1 xz2 fxz0 fxz1 fxz2 xo0 xo1 xo2 fxo0 fxo1 fxo2
      replace ka := ka.below hb ka.lt
      replace kb := kb.below hb kb.lt
      replace ks := ks.below hb ks.lt
      replace kM := kM.below hb kM.lt
      replace kS := kS.below hb kS.lt
      replace kX := kX.below hb kX.lt
      replace kY := kY.below hb kY.lt
      replace kP := kP.below hb kP.lt
      replace kQ := kQ.below hb kQ.lt
      replace kU := kU.below hb kU.lt
      replace kV := kV.below hb kV.lt
      replace kZ := kZ.below hb kZ.lt
      replace kO := kO.below hb kO.lt
      replace rM := row_below rM hb
      replace rS := row_below rS hb
      replace rX := row_below rX hb
      replace rY := row_below rY hb
      replace rP := row_below rP hb
      replace rQ := row_below rQ hb
      replace rU := row_below rU hb
      replace rV := row_below rV hb
      replace rZ := row_below rZ hb
      replace rO := row_below rO hb
      replace hB := hB.trans (hb.mono hB.size)
      have m0 := ka.cell (i := 0) rfl
      have m1 := ka.cell (i := 1) rfl
      have m2 := ka.cell (i := 2) rfl
      have s0 := kb.cell (i := 0) rfl
      have s1 := kb.cell (i := 1) rfl
      have s2 := kb.cell (i := 2) rfl
      have t0 := ks.cell (i := 0) rfl
      have t1 := ks.cell (i := 1) rfl
      have t2 := ks.cell (i := 2) rfl
      have xm0 := kM.cell (i := 0) rfl
      have xm1 := kM.cell (i := 1) rfl
      have xm2 := kM.cell (i := 2) rfl
      have fxm0 := kM.frozen 0
      have fxm1 := kM.frozen 1
      have fxm2 := kM.frozen 2
      have xs0 := kS.cell (i := 0) rfl
      have xs1 := kS.cell (i := 1) rfl
      have xs2 := kS.cell (i := 2) rfl
      have fxs0 := kS.frozen 0
      have fxs1 := kS.frozen 1
      have fxs2 := kS.frozen 2
      have xx0 := kX.cell (i := 0) rfl
      have xx1 := kX.cell (i := 1) rfl
      have xx2 := kX.cell (i := 2) rfl
      have fxx0 := kX.frozen 0
      have fxx1 := kX.frozen 1
      have fxx2 := kX.frozen 2
      have xy0 := kY.cell (i := 0) rfl
      have xy1 := kY.cell (i := 1) rfl
      have xy2 := kY.cell (i := 2) rfl
      have fxy0 := kY.frozen 0
      have fxy1 := kY.frozen 1
      have fxy2 := kY.frozen 2
      have xp0 := kP.cell (i := 0) rfl
      have xp1 := kP.cell (i := 1) rfl
      have xp2 := kP.cell (i := 2) rfl
      have fxp0 := kP.frozen 0
      have fxp1 := kP.frozen 1
      have fxp2 := kP.frozen 2
      have xq0 := kQ.cell (i := 0) rfl
      have xq1 := kQ.cell (i := 1) rfl
      have xq2 := kQ.cell (i := 2) rfl
      have fxq0 := kQ.frozen 0
      have fxq1 := kQ.frozen 1
      have fxq2 := kQ.frozen 2
      have xu0 := kU.cell (i := 0) rfl
      have xu1 := kU.cell (i := 1) rfl
      have xu2 := kU.cell (i := 2) rfl
      have fxu0 := kU.frozen 0
      have fxu1 := kU.frozen 1
      have fxu2 := kU.frozen 2
      have xv0 := kV.cell (i := 0) rfl
      have xv1 := kV.cell (i := 1) rfl
      have xv2 := kV.cell (i := 2) rfl
      have fxv0 := kV.frozen 0
      have fxv1 := kV.frozen 1
      have fxv2 := kV.frozen 2
      have xz0 := kZ.cell (i := 0) rfl
      have xz1 := kZ.cell (i := 1) rfl
      have xz2 := kZ.cell (i := 2) rfl
      have fxz0 := kZ.frozen 0
      have fxz1 := kZ.frozen 1
      have fxz2 := kZ.frozen 2
      have xo0 := kO.cell (i := 0) rfl
      have xo1 := kO.cell (i := 1) rfl
      have xo2 := kO.cell (i := 2) rfl
      have fxo0 := kO.frozen 0
      have fxo1 := kO.frozen 1
      have fxo2 := kO.frozen 2
      clear hb
      go_wp2_with fail
      refine (Same_eq pw ph srYa srOa srYc srOc n Y hlY _ (by omega) (row_rd' hlY.out rY) (row_rd' hlY.out rO)).mono ?_
      rintro e V25 ⟨rfl, hb⟩
      clear m0 m1 m2 s0 s1 s2 t0 t1 t2 xm0 xm1 xm2 fxm0 fxm1 fxm2 xs0 xs1 xs2 fxs0 fxs1 fxs2 xx0 xx1 xx2 fxx0 fxx1 fxx2 xy0 xy1 xy2 fxy0 fxy1 fxy2 xp0 xp1 xp2 fxp0 fxp1 fxp2 xq0 xq1 xq2 fxq0 fxq1 fxq2 xu0 xu1 xu2 fxu0 fxu1 fxu2 xv0 xv1 xv2 fxv0 fxv1 fxv2 xz0 xz1 xz2 fxz0 fxz1 fxz2 xo0 xo1 xo2 fxo0 fxo1 fxo2
      replace ka := ka.below hb ka.lt
      replace kb := kb.below hb kb.lt
      replace ks := ks.below hb ks.lt
      replace kM := kM.below hb kM.lt
      replace kS := kS.below hb kS.lt
      replace kX := kX.below hb kX.lt
      replace kY := kY.below hb kY.lt
      replace kP := kP.below hb kP.lt
      replace kQ := kQ.below hb kQ.lt
      replace kU := kU.below hb kU.lt
      replace kV := kV.below hb kV.lt
      replace kZ := kZ.below hb kZ.lt
      replace kO := kO.below hb kO.lt
      replace rM := row_below rM hb
      replace rS := row_below rS hb
      replace rX := row_below rX hb
      replace rY := row_below rY hb
      replace rP := row_below rP hb
      replace rQ := row_below rQ hb
      replace rU := row_below rU hb
      replace rV := row_below rV hb
      replace rZ := row_below rZ hb
      replace rO := row_below rO hb
      replace hB := hB.trans (hb.mono hB.size)
      have m0 := ka.cell (i := 0) rfl
      have m1 := ka.cell (i := 1) rfl
      have m2 := ka.cell (i := 2) rfl
      have s0 := kb.cell (i := 0) rfl
      have s1 := kb.cell (i := 1) rfl
      have s2 := kb.cell (i := 2) rfl
      have t0 := ks.cell (i := 0) rfl
      have t1 := ks.cell (i := 1) rfl
      have t2 := ks.cell (i := 2) rfl
      have xm0 := kM.cell (i := 0) rfl
      have xm1 := kM.cell (i := 1) rfl
      have xm2 := kM.cell (i := 2) rfl
      have fxm0 := kM.frozen 0
      have fxm1 := kM.frozen 1
      have fxm2 := kM.frozen 2
      have xs0 := kS.cell (i := 0) rfl
      have xs1 := kS.cell (i := 1) rfl
      have xs2 := kS.cell (i := 2) rfl
      have fxs0 := kS.frozen 0
      have fxs1 := kS.frozen 1
      have fxs2 := kS.frozen 2
      have xx0 := kX.cell (i := 0) rfl
      have xx1 := kX.cell (i := 1) rfl
      have xx2 := kX.cell (i := 2) rfl
      have fxx0 := kX.frozen 0
      have fxx1 := kX.frozen 1
      have fxx2 := kX.frozen 2
      have xy0 := kY.cell (i := 0) rfl
      have xy1 := kY.cell (i := 1) rfl
      have xy2 := kY.cell (i := 2) rfl
      have fxy0 := kY.frozen 0
      have fxy1 := kY.frozen 1
      have fxy2 := kY.frozen 2
      have xp0 := kP.cell (i := 0) rfl
      have xp1 := kP.cell (i := 1) rfl
      have xp2 := kP.cell (i := 2) rfl
      have fxp0 := kP.frozen 0
      have fxp1 := kP.frozen 1
      have fxp2 := kP.frozen 2
      have xq0 := kQ.cell (i := 0) rfl
      have xq1 := kQ.cell (i := 1) rfl
      have xq2 := kQ.cell (i := 2) rfl
      have fxq0 := kQ.frozen 0
      have fxq1 := kQ.frozen 1
      have fxq2 := kQ.frozen 2
      have xu0 := kU.cell (i := 0) rfl
      have xu1 := kU.cell (i := 1) rfl
      have xu2 := kU.cell (i := 2) rfl
      have fxu0 := kU.frozen 0
      have fxu1 := kU.frozen 1
      have fxu2 := kU.frozen 2
      have xv0 := kV.cell (i := 0) rfl
      have xv1 := kV.cell (i := 1) rfl
      have xv2 := kV.cell (i := 2) rfl
      have fxv0 := kV.frozen 0
      have fxv1 := kV.frozen 1
      have fxv2 := kV.frozen 2
      have xz0 := kZ.cell (i := 0) rfl
      have xz1 := kZ.cell (i := 1) rfl
      have xz2 := kZ.cell (i := 2) rfl
      have fxz0 := kZ.frozen 0
      have fxz1 := kZ.frozen 1
      have fxz2 := kZ.frozen 2
      have xo0 := kO.cell (i := 0) rfl
      have xo1 := kO.cell (i := 1) rfl
      have xo2 := kO.cell (i := 2) rfl
      have fxo0 := kO.frozen 0
      have fxo1 := kO.frozen 1
      have fxo2 := kO.frozen 2
      clear hb
      go_wp2_with fail
      go_ret
      exact ⟨rfl, hB⟩

end Go.Proofs.Ytjglfeonoiljlaa
