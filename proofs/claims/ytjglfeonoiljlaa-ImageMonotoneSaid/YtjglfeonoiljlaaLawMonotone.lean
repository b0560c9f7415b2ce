/- The walk of the law ImageMonotone: it returns true, and nothing that lay has turned. -/
import Derived.Test.YtjglfeonoiljlaaMono
import Derived.Test.YtjglfeonoiljlaaAlive
namespace Go.Proofs.Ytjglfeonoiljlaa
open Go Go.RowKit Go.Shelf
set_option linter.unusedVariables false
set_option linter.unusedSimpArgs false

set_option maxRecDepth 100000 in
set_option maxHeartbeats 8000000 in
theorem law_monotone (iw ih : Int) (a : Option Addr) (c n : Nat) (xs : List Int) (hn : Hid (xs.length = n)) (jw jh : Int) (a' : Option Addr) (c' m : Nat) (ys : List Int) (hn' : Hid (ys.length = m)) (p : PointN) (w : World)
    (hm : n ≤ 9223372036854775807) (hr : Rd w.heap.size w a xs) (hm' : m ≤ 9223372036854775807) (hr' : Rd w.heap.size w a' ys) :
    Calls Try.prog 19 #[imv iw ih a n c, imv jw jh a' m c', p.val] w fun e w' => e = .returned (.bool true) ∧ Below w.heap.size w w' := by
  obtain ⟨zv, hzv0⟩ : ∃ v, sizedB iw ih xs jw jh ys = v := ⟨_, rfl⟩
  have hzv := Lib.hid hzv0
  obtain ⟨pv, hpv0⟩ : ∃ v, p.ok = v := ⟨_, rfl⟩
  have hpv := Lib.hid hpv0
  clear hzv0 hpv0
  cases zv with
  | false =>
    have hB : Below w.heap.size w (((w.alloc (.cells #[.int .i64 iw, .int .i64 ih, .slice a n c] 24)).alloc (.cells #[.int .i64 jw, .int .i64 jh, .slice a' m c'] 24)).alloc (.cells p.cells 55)) := below_al (below_al (below_al (Below.refl _ _) _) _) _
    have ka := (((Blk.new w 24 #[.int .i64 iw, .int .i64 ih, .slice a n c]).alloc (.cells #[.int .i64 jw, .int .i64 jh, .slice a' m c'] 24)).alloc (.cells p.cells 55))
    have kb := ((Blk.new (w.alloc (.cells #[.int .i64 iw, .int .i64 ih, .slice a n c] 24)) 24 #[.int .i64 jw, .int .i64 jh, .slice a' m c']).alloc (.cells p.cells 55))
    have kp := (Blk.new ((w.alloc (.cells #[.int .i64 iw, .int .i64 ih, .slice a n c] 24)).alloc (.cells #[.int .i64 jw, .int .i64 jh, .slice a' m c'] 24)) 55 p.cells)
    simp only [World.size_alloc] at kb kp
    obtain ⟨W0, hW⟩ : ∃ W, (((w.alloc (.cells #[.int .i64 iw, .int .i64 ih, .slice a n c] 24)).alloc (.cells #[.int .i64 jw, .int .i64 jh, .slice a' m c'] 24)).alloc (.cells p.cells 55)) = W := ⟨_, rfl⟩
    rw [hW] at hB ka kb kp
    have m0 := ka.cell (i := 0) rfl
    have m1 := ka.cell (i := 1) rfl
    have m2 := ka.cell (i := 2) rfl
    have s0 := kb.cell (i := 0) rfl
    have s1 := kb.cell (i := 1) rfl
    have s2 := kb.cell (i := 2) rfl
    have t0 := kp.cell (i := 0) rfl
    have t1 := kp.cell (i := 1) rfl
    have t2 := kp.cell (i := 2) rfl
    have t3 := kp.cell (i := 3) rfl
    have t4 := kp.cell (i := 4) rfl
    go_enter Try.func19, Try.ntmps19
    go_wp2_with fail
    clear hW
    refine (alive_any _).mono ?_
    rintro e V1 ⟨rfl, hb⟩
    clear m0 m1 m2 s0 s1 s2 t0 t1 t2 t3 t4
    replace ka := ka.below hb ka.lt
    replace kb := kb.below hb kb.lt
    replace kp := kp.below hb kp.lt
    replace hB := hB.trans (hb.mono hB.size)
    have m0 := ka.cell (i := 0) rfl
    have m1 := ka.cell (i := 1) rfl
    have m2 := ka.cell (i := 2) rfl
    have s0 := kb.cell (i := 0) rfl
    have s1 := kb.cell (i := 1) rfl
    have s2 := kb.cell (i := 2) rfl
    have t0 := kp.cell (i := 0) rfl
    have t1 := kp.cell (i := 1) rfl
    have t2 := kp.cell (i := 2) rfl
    have t3 := kp.cell (i := 3) rfl
    have t4 := kp.cell (i := 4) rfl
    clear hb
    go_wp2_with fail
    refine (sized_any iw ih a c n xs hn jw jh a' c' m ys hn' _ hzv _ (by omega) ((hr.below (Nat.le_refl _) hB).mono hB.size) (by omega) ((hr'.below (Nat.le_refl _) hB).mono hB.size)).mono ?_
    rintro e V2 ⟨rfl, hb⟩
    clear m0 m1 m2 s0 s1 s2 t0 t1 t2 t3 t4
    replace ka := ka.below hb ka.lt
    replace kb := kb.below hb kb.lt
    replace kp := kp.below hb kp.lt
    replace hB := hB.trans (hb.mono hB.size)
    have m0 := ka.cell (i := 0) rfl
    have m1 := ka.cell (i := 1) rfl
    have m2 := ka.cell (i := 2) rfl
    have s0 := kb.cell (i := 0) rfl
    have s1 := kb.cell (i := 1) rfl
    have s2 := kb.cell (i := 2) rfl
    have t0 := kp.cell (i := 0) rfl
    have t1 := kp.cell (i := 1) rfl
    have t2 := kp.cell (i := 2) rfl
    have t3 := kp.cell (i := 3) rfl
    have t4 := kp.cell (i := 4) rfl
    clear hb
    go_wp2_with fail
    go_ret
    exact ⟨rfl, hB⟩
  | true =>
    cases pv with
    | false =>
      have hB : Below w.heap.size w (((w.alloc (.cells #[.int .i64 iw, .int .i64 ih, .slice a n c] 24)).alloc (.cells #[.int .i64 jw, .int .i64 jh, .slice a' m c'] 24)).alloc (.cells p.cells 55)) := below_al (below_al (below_al (Below.refl _ _) _) _) _
      have ka := (((Blk.new w 24 #[.int .i64 iw, .int .i64 ih, .slice a n c]).alloc (.cells #[.int .i64 jw, .int .i64 jh, .slice a' m c'] 24)).alloc (.cells p.cells 55))
      have kb := ((Blk.new (w.alloc (.cells #[.int .i64 iw, .int .i64 ih, .slice a n c] 24)) 24 #[.int .i64 jw, .int .i64 jh, .slice a' m c']).alloc (.cells p.cells 55))
      have kp := (Blk.new ((w.alloc (.cells #[.int .i64 iw, .int .i64 ih, .slice a n c] 24)).alloc (.cells #[.int .i64 jw, .int .i64 jh, .slice a' m c'] 24)) 55 p.cells)
      simp only [World.size_alloc] at kb kp
      obtain ⟨W0, hW⟩ : ∃ W, (((w.alloc (.cells #[.int .i64 iw, .int .i64 ih, .slice a n c] 24)).alloc (.cells #[.int .i64 jw, .int .i64 jh, .slice a' m c'] 24)).alloc (.cells p.cells 55)) = W := ⟨_, rfl⟩
      rw [hW] at hB ka kb kp
      have m0 := ka.cell (i := 0) rfl
      have m1 := ka.cell (i := 1) rfl
      have m2 := ka.cell (i := 2) rfl
      have s0 := kb.cell (i := 0) rfl
      have s1 := kb.cell (i := 1) rfl
      have s2 := kb.cell (i := 2) rfl
      have t0 := kp.cell (i := 0) rfl
      have t1 := kp.cell (i := 1) rfl
      have t2 := kp.cell (i := 2) rfl
      have t3 := kp.cell (i := 3) rfl
      have t4 := kp.cell (i := 4) rfl
      go_enter Try.func19, Try.ntmps19
      go_wp2_with fail
      clear hW
      refine (alive_any _).mono ?_
      rintro e V1 ⟨rfl, hb⟩
      clear m0 m1 m2 s0 s1 s2 t0 t1 t2 t3 t4
      replace ka := ka.below hb ka.lt
      replace kb := kb.below hb kb.lt
      replace kp := kp.below hb kp.lt
      replace hB := hB.trans (hb.mono hB.size)
      have m0 := ka.cell (i := 0) rfl
      have m1 := ka.cell (i := 1) rfl
      have m2 := ka.cell (i := 2) rfl
      have s0 := kb.cell (i := 0) rfl
      have s1 := kb.cell (i := 1) rfl
      have s2 := kb.cell (i := 2) rfl
      have t0 := kp.cell (i := 0) rfl
      have t1 := kp.cell (i := 1) rfl
      have t2 := kp.cell (i := 2) rfl
      have t3 := kp.cell (i := 3) rfl
      have t4 := kp.cell (i := 4) rfl
      clear hb
      go_wp2_with fail
      refine (sized_any iw ih a c n xs hn jw jh a' c' m ys hn' _ hzv _ (by omega) ((hr.below (Nat.le_refl _) hB).mono hB.size) (by omega) ((hr'.below (Nat.le_refl _) hB).mono hB.size)).mono ?_
      rintro e V2 ⟨rfl, hb⟩
      clear m0 m1 m2 s0 s1 s2 t0 t1 t2 t3 t4
      replace ka := ka.below hb ka.lt
      replace kb := kb.below hb kb.lt
      replace kp := kp.below hb kp.lt
      replace hB := hB.trans (hb.mono hB.size)
      have m0 := ka.cell (i := 0) rfl
      have m1 := ka.cell (i := 1) rfl
      have m2 := ka.cell (i := 2) rfl
      have s0 := kb.cell (i := 0) rfl
      have s1 := kb.cell (i := 1) rfl
      have s2 := kb.cell (i := 2) rfl
      have t0 := kp.cell (i := 0) rfl
      have t1 := kp.cell (i := 1) rfl
      have t2 := kp.cell (i := 2) rfl
      have t3 := kp.cell (i := 3) rfl
      have t4 := kp.cell (i := 4) rfl
      clear hb
      go_wp2_with fail
      refine (ValidPoint_any p _).mono ?_
      rintro e V9 ⟨rfl, hb⟩
      rw [hpv.out]
      clear m0 m1 m2 s0 s1 s2 t0 t1 t2 t3 t4
      replace ka := ka.below hb ka.lt
      replace kb := kb.below hb kb.lt
      replace kp := kp.below hb kp.lt
      replace hB := hB.trans (hb.mono hB.size)
      have m0 := ka.cell (i := 0) rfl
      have m1 := ka.cell (i := 1) rfl
      have m2 := ka.cell (i := 2) rfl
      have s0 := kb.cell (i := 0) rfl
      have s1 := kb.cell (i := 1) rfl
      have s2 := kb.cell (i := 2) rfl
      have t0 := kp.cell (i := 0) rfl
      have t1 := kp.cell (i := 1) rfl
      have t2 := kp.cell (i := 2) rfl
      have t3 := kp.cell (i := 3) rfl
      have t4 := kp.cell (i := 4) rfl
      clear hb
      go_wp2_with fail
      go_ret
      exact ⟨rfl, hB⟩
    | true =>
      have hz := hzv.out
      simp only [sizedB, Bool.and_eq_true, decide_eq_true_eq] at hz
      obtain ⟨⟨⟨hv1, hv2⟩, hj1⟩, hj2⟩ := hz
      subst hj1 hj2
      obtain ⟨⟨i1, i2⟩, ⟨i3, i4⟩, hl1, ha1⟩ := vld_true hv1
      obtain ⟨_, _, hl2, ha2⟩ := vld_true hv2
      obtain ⟨pw, rfl⟩ : ∃ pw : Nat, iw = (pw : Int) := ⟨iw.toNat, by omega⟩
      obtain ⟨ph, rfl⟩ : ∃ ph : Nat, ih = (ph : Int) := ⟨ih.toNat, by omega⟩
      have h2 : ((pw * ph : Nat) : Int) = (pw : Int) * ph := by simp
      have hN : pw * ph = n := by have := hn.out; omega
      have hmn : n = m := by have := hn'.out; omega
      subst hmn
      have hn0 : 0 < n := by rw [← hN]; exact Nat.mul_pos (by omega) (by omega)
      have hx : rng xs := ha1
      have hy : rng ys := ha2
      have hvi := fun (g : Int → Int → Int) => vld_img (pw := pw) (ph := ph) (by omega) (by omega) (by omega) (by omega) g
      have hSS := Lib.hid (zipL_ok (how := 3) hv1 hv2 (by decide) (by decide))
      have hSX := Lib.hid (show pointS pw ph (zipI pw ph xs ys 3) p = { w := pw, h := ph, px := ptL pw ph p (zipI pw ph xs ys 3), err := 0 } from pointS_ok (hvi _) hpv.out)
      have hSY := Lib.hid (pointS_ok hv1 hpv.out)
      have hlS := Lib.hid (show (zipI pw ph xs ys 3).length = n from (img_length _ _ _).trans hN)
      have hlX := Lib.hid (show (ptL pw ph p (zipI pw ph xs ys 3)).length = n from ptL_len.trans hN)
      have hlY := Lib.hid (show (ptL pw ph p xs).length = n from ptL_len.trans hN)
      have hup := Lib.hid (fun (h : 0 ≤ p.mul) => show belowB n (ptL pw ph p (zipI pw ph xs ys 3)) (ptL pw ph p xs) = true by rw [← hN]; exact mono_up hpv.out h hx hy)
      have hdn := Lib.hid (fun (h : p.mul ≤ 0) => show belowB n (ptL pw ph p xs) (ptL pw ph p (zipI pw ph xs ys 3)) = true by rw [← hN]; exact mono_down hpv.out h hx hy)
      have hrX := Lib.hid (fun (k : Nat) (hk : k < n) => show p.lo ≤ px (ptL pw ph p (zipI pw ph xs ys 3)) k ∧ px (ptL pw ph p (zipI pw ph xs ys 3)) k ≤ p.hi by rw [px_pt hpv.out _ (by rw [hN]; exact hk)]; exact pointF_range hpv.out _)
      clear hvi hx hy hl1 hl2 ha1 ha2 hv1 hv2 h2 hN
      generalize ptL pw ph p (zipI pw ph xs ys 3) = X at *
      generalize zipI pw ph xs ys 3 = S at *
      generalize ptL pw ph p xs = Y at *
      have hB : Below w.heap.size w (((w.alloc (.cells #[.int .i64 pw, .int .i64 ph, .slice a n c] 24)).alloc (.cells #[.int .i64 pw, .int .i64 ph, .slice a' n c'] 24)).alloc (.cells p.cells 55)) := below_al (below_al (below_al (Below.refl _ _) _) _) _
      have ka := (((Blk.new w 24 #[.int .i64 pw, .int .i64 ph, .slice a n c]).alloc (.cells #[.int .i64 pw, .int .i64 ph, .slice a' n c'] 24)).alloc (.cells p.cells 55))
      have kb := ((Blk.new (w.alloc (.cells #[.int .i64 pw, .int .i64 ph, .slice a n c] 24)) 24 #[.int .i64 pw, .int .i64 ph, .slice a' n c']).alloc (.cells p.cells 55))
      have kp := (Blk.new ((w.alloc (.cells #[.int .i64 pw, .int .i64 ph, .slice a n c] 24)).alloc (.cells #[.int .i64 pw, .int .i64 ph, .slice a' n c'] 24)) 55 p.cells)
      simp only [World.size_alloc] at kb kp
      obtain ⟨W0, hW⟩ : ∃ W, (((w.alloc (.cells #[.int .i64 pw, .int .i64 ph, .slice a n c] 24)).alloc (.cells #[.int .i64 pw, .int .i64 ph, .slice a' n c'] 24)).alloc (.cells p.cells 55)) = W := ⟨_, rfl⟩
      rw [hW] at hB ka kb kp
      have m0 := ka.cell (i := 0) rfl
      have m1 := ka.cell (i := 1) rfl
      have m2 := ka.cell (i := 2) rfl
      have s0 := kb.cell (i := 0) rfl
      have s1 := kb.cell (i := 1) rfl
      have s2 := kb.cell (i := 2) rfl
      have t0 := kp.cell (i := 0) rfl
      have t1 := kp.cell (i := 1) rfl
      have t2 := kp.cell (i := 2) rfl
      have t3 := kp.cell (i := 3) rfl
      have t4 := kp.cell (i := 4) rfl
      go_enter Try.func19, Try.ntmps19
      go_wp2_with fail
      clear hW
      refine (alive_any _).mono ?_
      rintro e V1 ⟨rfl, hb⟩
      clear m0 m1 m2 s0 s1 s2 t0 t1 t2 t3 t4
      replace ka := ka.below hb ka.lt
      replace kb := kb.below hb kb.lt
      replace kp := kp.below hb kp.lt
      replace hB := hB.trans (hb.mono hB.size)
      have m0 := ka.cell (i := 0) rfl
      have m1 := ka.cell (i := 1) rfl
      have m2 := ka.cell (i := 2) rfl
      have s0 := kb.cell (i := 0) rfl
      have s1 := kb.cell (i := 1) rfl
      have s2 := kb.cell (i := 2) rfl
      have t0 := kp.cell (i := 0) rfl
      have t1 := kp.cell (i := 1) rfl
      have t2 := kp.cell (i := 2) rfl
      have t3 := kp.cell (i := 3) rfl
      have t4 := kp.cell (i := 4) rfl
      clear hb
      go_wp2_with fail
      refine (sized_any pw ph a c n xs hn pw ph a' c' n ys hn' true hzv _ (by omega) ((hr.below (Nat.le_refl _) hB).mono hB.size) (by omega) ((hr'.below (Nat.le_refl _) hB).mono hB.size)).mono ?_
      rintro e V2 ⟨rfl, hb⟩
      clear m0 m1 m2 s0 s1 s2 t0 t1 t2 t3 t4
      replace ka := ka.below hb ka.lt
      replace kb := kb.below hb kb.lt
      replace kp := kp.below hb kp.lt
      replace hB := hB.trans (hb.mono hB.size)
      have m0 := ka.cell (i := 0) rfl
      have m1 := ka.cell (i := 1) rfl
      have m2 := ka.cell (i := 2) rfl
      have s0 := kb.cell (i := 0) rfl
      have s1 := kb.cell (i := 1) rfl
      have s2 := kb.cell (i := 2) rfl
      have t0 := kp.cell (i := 0) rfl
      have t1 := kp.cell (i := 1) rfl
      have t2 := kp.cell (i := 2) rfl
      have t3 := kp.cell (i := 3) rfl
      have t4 := kp.cell (i := 4) rfl
      clear hb
      go_wp2_with fail
      refine (ValidPoint_any p _).mono ?_
      rintro e V9 ⟨rfl, hb⟩
      rw [hpv.out]
      clear m0 m1 m2 s0 s1 s2 t0 t1 t2 t3 t4
      replace ka := ka.below hb ka.lt
      replace kb := kb.below hb kb.lt
      replace kp := kp.below hb kp.lt
      replace hB := hB.trans (hb.mono hB.size)
      have m0 := ka.cell (i := 0) rfl
      have m1 := ka.cell (i := 1) rfl
      have m2 := ka.cell (i := 2) rfl
      have s0 := kb.cell (i := 0) rfl
      have s1 := kb.cell (i := 1) rfl
      have s2 := kb.cell (i := 2) rfl
      have t0 := kp.cell (i := 0) rfl
      have t1 := kp.cell (i := 1) rfl
      have t2 := kp.cell (i := 2) rfl
      have t3 := kp.cell (i := 3) rfl
      have t4 := kp.cell (i := 4) rfl
      clear hb
      go_wp2_with fail
      have hcall := Zip_any pw ph a c n xs hn pw ph a' c' n ys hn' 3 (by decide) (by decide) _ (by omega) (by omega) ((hr.below (Nat.le_refl _) hB).mono hB.size) ((hr'.below (Nat.le_refl _) hB).mono hB.size)
      rw [hSS.out] at hcall
      refine hcall.mono ?_
      clear hcall
      rintro e V3 ⟨⟨v, hev, sl, hvl, hrow⟩, hb⟩
      have rS : V3.ownsRow w.heap.size 3 1 sl n ((S).map (Value.int .i64)) := row_base (row_len (k := (S).length) hlS.out hrow) hB.size
      obtain ⟨srSa, srSc, rfl⟩ := row_slice rS
      have he : e = .returned (.tuple #[.agg #[.int .i64 pw, .int .i64 ph, .slice srSa n srSc], .int .i64 0]) := by rw [hev, hvl]
      subst he
      clear hrow hev hvl
      clear m0 m1 m2 s0 s1 s2 t0 t1 t2 t3 t4
      replace ka := ka.below hb ka.lt
      replace kb := kb.below hb kb.lt
      replace kp := kp.below hb kp.lt
      replace hB := hB.trans (hb.mono hB.size)
      have m0 := ka.cell (i := 0) rfl
      have m1 := ka.cell (i := 1) rfl
      have m2 := ka.cell (i := 2) rfl
      have s0 := kb.cell (i := 0) rfl
      have s1 := kb.cell (i := 1) rfl
      have s2 := kb.cell (i := 2) rfl
      have t0 := kp.cell (i := 0) rfl
      have t1 := kp.cell (i := 1) rfl
      have t2 := kp.cell (i := 2) rfl
      have t3 := kp.cell (i := 3) rfl
      have t4 := kp.cell (i := 4) rfl
      clear hb
      obtain ⟨V4, hW⟩ : ∃ V4, V3.alloc (.cells #[.int .i64 pw, .int .i64 ph, .slice srSa n srSc] 24) = V4 := ⟨_, rfl⟩
      obtain ⟨bkS, hbx⟩ : ∃ bkS, V3.heap.size = bkS := ⟨_, rfl⟩
      have kS := Blk.new V3 24 #[.int .i64 pw, .int .i64 ph, .slice srSa n srSc]
      rw [hW, hbx] at kS
      have hb : Below V3.heap.size V3 V4 := alloc_below hW
      have ka' := ka.below hb ka.lt
      have lkakS := ka.lt
      rw [hbx] at lkakS
      have kb' := kb.below hb kb.lt
      have lkbkS := kb.lt
      rw [hbx] at lkbkS
      have kp' := kp.below hb kp.lt
      have lkpkS := kp.lt
      rw [hbx] at lkpkS
      have m0' := ka'.cell (i := 0) rfl
      have m1' := ka'.cell (i := 1) rfl
      have m2' := ka'.cell (i := 2) rfl
      have s0' := kb'.cell (i := 0) rfl
      have s1' := kb'.cell (i := 1) rfl
      have s2' := kb'.cell (i := 2) rfl
      have t0' := kp'.cell (i := 0) rfl
      have t1' := kp'.cell (i := 1) rfl
      have t2' := kp'.cell (i := 2) rfl
      have t3' := kp'.cell (i := 3) rfl
      have t4' := kp'.cell (i := 4) rfl
      have xs0 := kS.cell (i := 0) rfl
      have xs1 := kS.cell (i := 1) rfl
      have xs2 := kS.cell (i := 2) rfl
      have fxs0 := kS.frozen 0
      have fxs1 := kS.frozen 1
      have fxs2 := kS.frozen 2
      go_wp2_with fail
      clear hW
      clear hbx
      clear m0 m1 m2 s0 s1 s2 t0 t1 t2 t3 t4
      clear m0' m1' m2' s0' s1' s2' t0' t1' t2' t3' t4'
      replace ka := ka'
      clear ka'
      replace kb := kb'
      clear kb'
      replace kp := kp'
      clear kp'
      have m0 := ka.cell (i := 0) rfl
      have m1 := ka.cell (i := 1) rfl
      have m2 := ka.cell (i := 2) rfl
      have s0 := kb.cell (i := 0) rfl
      have s1 := kb.cell (i := 1) rfl
      have s2 := kb.cell (i := 2) rfl
      have t0 := kp.cell (i := 0) rfl
      have t1 := kp.cell (i := 1) rfl
      have t2 := kp.cell (i := 2) rfl
      have t3 := kp.cell (i := 3) rfl
      have t4 := kp.cell (i := 4) rfl
      replace rS := row_below rS hb
      replace hB := hB.trans (hb.mono hB.size)
      clear hb
      have hcall := Point_any pw ph srSa srSc n S hlS p _ (by omega) (row_rd' hlS.out rS)
      rw [hSX.out] at hcall
      refine hcall.mono ?_
      clear hcall
      rintro e V5 ⟨⟨v, hev, sl, hvl, hrow⟩, hb⟩
      have rX : V5.ownsRow w.heap.size 3 1 sl n ((X).map (Value.int .i64)) := row_base (row_len (k := (X).length) hlX.out hrow) hB.size
      obtain ⟨srXa, srXc, rfl⟩ := row_slice rX
      have he : e = .returned (.tuple #[.agg #[.int .i64 pw, .int .i64 ph, .slice srXa n srXc], .int .i64 0]) := by rw [hev, hvl]
      subst he
      clear hrow hev hvl
      clear m0 m1 m2 s0 s1 s2 t0 t1 t2 t3 t4 xs0 xs1 xs2 fxs0 fxs1 fxs2
      replace ka := ka.below hb ka.lt
      replace kb := kb.below hb kb.lt
      replace kp := kp.below hb kp.lt
      replace kS := kS.below hb kS.lt
      replace rS := row_below rS hb
      replace hB := hB.trans (hb.mono hB.size)
      have m0 := ka.cell (i := 0) rfl
      have m1 := ka.cell (i := 1) rfl
      have m2 := ka.cell (i := 2) rfl
      have s0 := kb.cell (i := 0) rfl
      have s1 := kb.cell (i := 1) rfl
      have s2 := kb.cell (i := 2) rfl
      have t0 := kp.cell (i := 0) rfl
      have t1 := kp.cell (i := 1) rfl
      have t2 := kp.cell (i := 2) rfl
      have t3 := kp.cell (i := 3) rfl
      have t4 := kp.cell (i := 4) rfl
      have xs0 := kS.cell (i := 0) rfl
      have xs1 := kS.cell (i := 1) rfl
      have xs2 := kS.cell (i := 2) rfl
      have fxs0 := kS.frozen 0
      have fxs1 := kS.frozen 1
      have fxs2 := kS.frozen 2
      clear hb
      obtain ⟨V6, hW⟩ : ∃ V6, V5.alloc (.cells #[.int .i64 pw, .int .i64 ph, .slice srXa n srXc] 24) = V6 := ⟨_, rfl⟩
      obtain ⟨bkX, hbx⟩ : ∃ bkX, V5.heap.size = bkX := ⟨_, rfl⟩
      have kX := Blk.new V5 24 #[.int .i64 pw, .int .i64 ph, .slice srXa n srXc]
      rw [hW, hbx] at kX
      have hb : Below V5.heap.size V5 V6 := alloc_below hW
      have ka' := ka.below hb ka.lt
      have lkakX := ka.lt
      rw [hbx] at lkakX
      have kb' := kb.below hb kb.lt
      have lkbkX := kb.lt
      rw [hbx] at lkbkX
      have kp' := kp.below hb kp.lt
      have lkpkX := kp.lt
      rw [hbx] at lkpkX
      have kS' := kS.below hb kS.lt
      have lkSkX := kS.lt
      rw [hbx] at lkSkX
      have m0' := ka'.cell (i := 0) rfl
      have m1' := ka'.cell (i := 1) rfl
      have m2' := ka'.cell (i := 2) rfl
      have s0' := kb'.cell (i := 0) rfl
      have s1' := kb'.cell (i := 1) rfl
      have s2' := kb'.cell (i := 2) rfl
      have t0' := kp'.cell (i := 0) rfl
      have t1' := kp'.cell (i := 1) rfl
      have t2' := kp'.cell (i := 2) rfl
      have t3' := kp'.cell (i := 3) rfl
      have t4' := kp'.cell (i := 4) rfl
      have xs0' := kS'.cell (i := 0) rfl
      have xs1' := kS'.cell (i := 1) rfl
      have xs2' := kS'.cell (i := 2) rfl
      have fxs0' := kS'.frozen 0
      have fxs1' := kS'.frozen 1
      have fxs2' := kS'.frozen 2
      have xx0 := kX.cell (i := 0) rfl
      have xx1 := kX.cell (i := 1) rfl
      have xx2 := kX.cell (i := 2) rfl
      have fxx0 := kX.frozen 0
      have fxx1 := kX.frozen 1
      have fxx2 := kX.frozen 2
      go_wp2_with fail
      clear hW
      clear hbx
      clear m0 m1 m2 s0 s1 s2 t0 t1 t2 t3 t4 xs0 xs1 xs2 fxs0 fxs1 fxs2
      clear m0' m1' m2' s0' s1' s2' t0' t1' t2' t3' t4' xs0' xs1' xs2' fxs0' fxs1' fxs2'
      replace ka := ka'
      clear ka'
      replace kb := kb'
      clear kb'
      replace kp := kp'
      clear kp'
      replace kS := kS'
      clear kS'
      have m0 := ka.cell (i := 0) rfl
      have m1 := ka.cell (i := 1) rfl
      have m2 := ka.cell (i := 2) rfl
      have s0 := kb.cell (i := 0) rfl
      have s1 := kb.cell (i := 1) rfl
      have s2 := kb.cell (i := 2) rfl
      have t0 := kp.cell (i := 0) rfl
      have t1 := kp.cell (i := 1) rfl
      have t2 := kp.cell (i := 2) rfl
      have t3 := kp.cell (i := 3) rfl
      have t4 := kp.cell (i := 4) rfl
      have xs0 := kS.cell (i := 0) rfl
      have xs1 := kS.cell (i := 1) rfl
      have xs2 := kS.cell (i := 2) rfl
      have fxs0 := kS.frozen 0
      have fxs1 := kS.frozen 1
      have fxs2 := kS.frozen 2
      replace rS := row_below rS hb
      replace rX := row_below rX hb
      replace hB := hB.trans (hb.mono hB.size)
      clear hb
      have hcall := Point_any pw ph a c n xs hn p _ (by omega) ((hr.below (Nat.le_refl _) hB).mono hB.size)
      rw [hSY.out] at hcall
      refine hcall.mono ?_
      clear hcall
      rintro e V7 ⟨⟨v, hev, sl, hvl, hrow⟩, hb⟩
      have rY : V7.ownsRow w.heap.size 3 1 sl n ((Y).map (Value.int .i64)) := row_base (row_len (k := (Y).length) hlY.out hrow) hB.size
      obtain ⟨srYa, srYc, rfl⟩ := row_slice rY
      have he : e = .returned (.tuple #[.agg #[.int .i64 pw, .int .i64 ph, .slice srYa n srYc], .int .i64 0]) := by rw [hev, hvl]
      subst he
      clear hrow hev hvl
      clear m0 m1 m2 s0 s1 s2 t0 t1 t2 t3 t4 xs0 xs1 xs2 fxs0 fxs1 fxs2 xx0 xx1 xx2 fxx0 fxx1 fxx2
      replace ka := ka.below hb ka.lt
      replace kb := kb.below hb kb.lt
      replace kp := kp.below hb kp.lt
      replace kS := kS.below hb kS.lt
      replace kX := kX.below hb kX.lt
      replace rS := row_below rS hb
      replace rX := row_below rX hb
      replace hB := hB.trans (hb.mono hB.size)
      have m0 := ka.cell (i := 0) rfl
      have m1 := ka.cell (i := 1) rfl
      have m2 := ka.cell (i := 2) rfl
      have s0 := kb.cell (i := 0) rfl
      have s1 := kb.cell (i := 1) rfl
      have s2 := kb.cell (i := 2) rfl
      have t0 := kp.cell (i := 0) rfl
      have t1 := kp.cell (i := 1) rfl
      have t2 := kp.cell (i := 2) rfl
      have t3 := kp.cell (i := 3) rfl
      have t4 := kp.cell (i := 4) rfl
      have xs0 := kS.cell (i := 0) rfl
      have xs1 := kS.cell (i := 1) rfl
      have xs2 := kS.cell (i := 2) rfl
      have fxs0 := kS.frozen 0
      have fxs1 := kS.frozen 1
      have fxs2 := kS.frozen 2
      have xx0 := kX.cell (i := 0) rfl
      have xx1 := kX.cell (i := 1) rfl
      have xx2 := kX.cell (i := 2) rfl
      have fxx0 := kX.frozen 0
      have fxx1 := kX.frozen 1
      have fxx2 := kX.frozen 2
      clear hb
      have kY := Blk.new V7 24 #[.int .i64 pw, .int .i64 ph, .slice srYa n srYc]
      obtain ⟨V20, hW⟩ : ∃ X, V7.alloc (.cells #[.int .i64 pw, .int .i64 ph, .slice srYa n srYc] 24) = X := ⟨_, rfl⟩
      obtain ⟨bkY, hbx⟩ : ∃ b, V7.heap.size = b := ⟨_, rfl⟩
      rw [hW, hbx] at kY
      have hb : Below V7.heap.size V7 V20 := alloc_below hW
      go_wp2_with fail
      clear hbx
      clear m0 m1 m2 s0 s1 s2 t0 t1 t2 t3 t4 xs0 xs1 xs2 fxs0 fxs1 fxs2 xx0 xx1 xx2 fxx0 fxx1 fxx2
      replace ka := ka.below hb ka.lt
      replace kb := kb.below hb kb.lt
      replace kp := kp.below hb kp.lt
      replace kS := kS.below hb kS.lt
      replace kX := kX.below hb kX.lt
      replace rS := row_below rS hb
      replace rX := row_below rX hb
      replace rY := row_below rY hb
      replace hB := hB.trans (hb.mono hB.size)
      have m0 := ka.cell (i := 0) rfl
      have m1 := ka.cell (i := 1) rfl
      have m2 := ka.cell (i := 2) rfl
      have s0 := kb.cell (i := 0) rfl
      have s1 := kb.cell (i := 1) rfl
      have s2 := kb.cell (i := 2) rfl
      have t0 := kp.cell (i := 0) rfl
      have t1 := kp.cell (i := 1) rfl
      have t2 := kp.cell (i := 2) rfl
      have t3 := kp.cell (i := 3) rfl
      have t4 := kp.cell (i := 4) rfl
      have xs0 := kS.cell (i := 0) rfl
      have xs1 := kS.cell (i := 1) rfl
      have xs2 := kS.cell (i := 2) rfl
      have fxs0 := kS.frozen 0
      have fxs1 := kS.frozen 1
      have fxs2 := kS.frozen 2
      have xx0 := kX.cell (i := 0) rfl
      have xx1 := kX.cell (i := 1) rfl
      have xx2 := kX.cell (i := 2) rfl
      have fxx0 := kX.frozen 0
      have fxx1 := kX.frozen 1
      have fxx2 := kX.frozen 2
      clear hb
      clear m0 m1 m2 s0 s1 s2 t0 t1 t2 t3 t4 xs0 xs1 xs2 fxs0 fxs1 fxs2 xx0 xx1 xx2 fxx0 fxx1 fxx2
      clear hW
      obtain ⟨bX, oX, hXa, hbX, hcX⟩ := rd_at (row_rd' hlX.out rX) hlX.out hn0
      subst hXa
      have hcXH := Lib.hid hcX
      clear hcX
      go_loopw [14] (fun i wr => ∃ k : Nat, k ≤ n ∧ i = .int .i64 (k : Int) ∧ Below V20.heap.size V20 wr) (fun i _ => n - (intOf i).toNat)
      case atStart => exact ⟨0, Nat.zero_le _, rfl, Below.refl _ _⟩
      case round =>
        obtain ⟨k, hkn, rfl, hBw⟩ := hrel
        have hBr : Below w.heap.size w wr := hB.trans (hBw.mono hB.size)
        have kX' := kX.below hBw kX.lt
        have kY' := kY.below hBw kY.lt
        have kp' := kp.below hBw kp.lt
        have rX' := row_below rX hBw
        have rY' := row_below rY hBw
        have x2 := kX'.cell (i := 2) rfl
        have hS : Below wr.heap.size wr wr.drew := (Below.refl _ _).drew
        by_cases hk : k < n
        · have e1 : decide (px X k < p.lo) = false := decide_eq_false (by have := hrX.out k hk; omega)
          have e2 : decide (p.hi < px X k) = false := decide_eq_false (by have := hrX.out k hk; omega)
          go_wp2_with fail
          clear x2
          refine plain_region (fun W' => Below wr.heap.size wr W') 18 18 (by kernel_rfl) rfl ?_
          simp only [Array.replicate_succ, Array.replicate_zero, List.push_toArray, List.nil_append, List.cons_append]
          refine take_op 0 (v := ?uv0) rfl (by kernel_rfl) (fun _ _ _ h => h) (by rfl) hS (fun w' hS' => ?uy0) ?uz0
          case uy0 =>
            go_simp
            rfl
          simp only [List.setIfInBounds_toArray, List.set_cons_zero, List.set_cons_succ]
          refine take_op 1 (v := ?uv1) rfl (by kernel_rfl) (fun _ _ _ h => h) (by rfl) hS (fun w' hS' => ?uy1) ?uz1
          case uy1 =>
            have x2 := (kX'.below hS' kX'.lt).cell (i := 2) rfl
            have t3 := (kp'.below hS' kp'.lt).cell (i := 3) rfl
            have t4 := (kp'.below hS' kp'.lt).cell (i := 4) rfl
            have cx := ((hBw.trans (hS'.mono hBw.size)).cell (p := ⟨bX, oX + k, none⟩) hbX).trans (hcXH.out k hk)
            go_simp
            rfl
          simp only [List.setIfInBounds_toArray, List.set_cons_zero, List.set_cons_succ]
          refine take_op 2 (v := ?uv2) rfl (by kernel_rfl) (fun _ _ _ h => h) (by rfl) hS (fun w' hS' => ?uy2) ?uz2
          case uy2 =>
            go_simp
            rfl
          simp only [List.setIfInBounds_toArray, List.set_cons_zero, List.set_cons_succ]
          refine take_op 3 (v := ?uv3) rfl (by kernel_rfl) (fun _ _ _ h => h) (by rfl) hS (fun w' hS' => ?uy3) ?uz3
          case uy3 =>
            go_simp
            try go_ints
            first
            | rfl
            | rw [if_pos ⟨by omega, by omega⟩]
          simp only [List.setIfInBounds_toArray, List.set_cons_zero, List.set_cons_succ]
          refine take_op 4 (v := ?uv4) rfl (by kernel_rfl) (fun _ _ _ h => h) (by rfl) hS (fun w' hS' => ?uy4) ?uz4
          case uy4 =>
            have x2 := (kX'.below hS' kX'.lt).cell (i := 2) rfl
            have t3 := (kp'.below hS' kp'.lt).cell (i := 3) rfl
            have t4 := (kp'.below hS' kp'.lt).cell (i := 4) rfl
            have cx := ((hBw.trans (hS'.mono hBw.size)).cell (p := ⟨bX, oX + k, none⟩) hbX).trans (hcXH.out k hk)
            go_simp
            rfl
          simp only [List.setIfInBounds_toArray, List.set_cons_zero, List.set_cons_succ]
          refine take_op 5 (v := ?uv5) rfl (by kernel_rfl) (fun _ _ _ h => h) (by rfl) hS (fun w' hS' => ?uy5) ?uz5
          case uy5 =>
            go_simp
            rfl
          simp only [List.setIfInBounds_toArray, List.set_cons_zero, List.set_cons_succ]
          refine take_op 6 (v := ?uv6) rfl (by kernel_rfl) (fun _ _ _ h => h) (by rfl) hS (fun w' hS' => ?uy6) ?uz6
          case uy6 =>
            have x2 := (kX'.below hS' kX'.lt).cell (i := 2) rfl
            have t3 := (kp'.below hS' kp'.lt).cell (i := 3) rfl
            have t4 := (kp'.below hS' kp'.lt).cell (i := 4) rfl
            have cx := ((hBw.trans (hS'.mono hBw.size)).cell (p := ⟨bX, oX + k, none⟩) hbX).trans (hcXH.out k hk)
            go_simp
            rfl
          simp only [List.setIfInBounds_toArray, List.set_cons_zero, List.set_cons_succ]
          refine take_op 7 (v := .bool false) rfl (by kernel_rfl) (fun _ _ _ h => h) (by rfl) hS (fun w' hS' => ?uy7) ?uz7
          case uy7 =>
            go_simp
            try simp only [e1]
          simp only [List.setIfInBounds_toArray, List.set_cons_zero, List.set_cons_succ]
          refine take_op 8 (v := ?uv8) rfl (by kernel_rfl) (fun _ _ _ h => h) (by rfl) hS (fun w' hS' => ?uy8) ?uz8
          case uy8 =>
            go_simp
            rfl
          simp only [List.setIfInBounds_toArray, List.set_cons_zero, List.set_cons_succ]
          refine take_op 9 (v := ?uv9) rfl (by kernel_rfl) (fun _ _ _ h => h) (by rfl) hS (fun w' hS' => ?uy9) ?uz9
          case uy9 =>
            go_simp
            rfl
          simp only [List.setIfInBounds_toArray, List.set_cons_zero, List.set_cons_succ]
          refine take_op 10 (v := ?uv10) rfl (by kernel_rfl) (fun _ _ _ h => h) (by rfl) hS (fun w' hS' => ?uy10) ?uz10
          case uy10 =>
            have x2 := (kX'.below hS' kX'.lt).cell (i := 2) rfl
            have t3 := (kp'.below hS' kp'.lt).cell (i := 3) rfl
            have t4 := (kp'.below hS' kp'.lt).cell (i := 4) rfl
            have cx := ((hBw.trans (hS'.mono hBw.size)).cell (p := ⟨bX, oX + k, none⟩) hbX).trans (hcXH.out k hk)
            go_simp
            rfl
          simp only [List.setIfInBounds_toArray, List.set_cons_zero, List.set_cons_succ]
          refine take_op 11 (v := ?uv11) rfl (by kernel_rfl) (fun _ _ _ h => h) (by rfl) hS (fun w' hS' => ?uy11) ?uz11
          case uy11 =>
            go_simp
            rfl
          simp only [List.setIfInBounds_toArray, List.set_cons_zero, List.set_cons_succ]
          refine take_op 12 (v := ?uv12) rfl (by kernel_rfl) (fun _ _ _ h => h) (by rfl) hS (fun w' hS' => ?uy12) ?uz12
          case uy12 =>
            go_simp
            try go_ints
            first
            | rfl
            | rw [if_pos ⟨by omega, by omega⟩]
          simp only [List.setIfInBounds_toArray, List.set_cons_zero, List.set_cons_succ]
          refine take_op 13 (v := ?uv13) rfl (by kernel_rfl) (fun _ _ _ h => h) (by rfl) hS (fun w' hS' => ?uy13) ?uz13
          case uy13 =>
            have x2 := (kX'.below hS' kX'.lt).cell (i := 2) rfl
            have t3 := (kp'.below hS' kp'.lt).cell (i := 3) rfl
            have t4 := (kp'.below hS' kp'.lt).cell (i := 4) rfl
            have cx := ((hBw.trans (hS'.mono hBw.size)).cell (p := ⟨bX, oX + k, none⟩) hbX).trans (hcXH.out k hk)
            go_simp
            rfl
          simp only [List.setIfInBounds_toArray, List.set_cons_zero, List.set_cons_succ]
          refine take_op 14 (v := ?uv14) rfl (by kernel_rfl) (fun _ _ _ h => h) (by rfl) hS (fun w' hS' => ?uy14) ?uz14
          case uy14 =>
            go_simp
            rfl
          simp only [List.setIfInBounds_toArray, List.set_cons_zero, List.set_cons_succ]
          refine take_op 15 (v := ?uv15) rfl (by kernel_rfl) (fun _ _ _ h => h) (by rfl) hS (fun w' hS' => ?uy15) ?uz15
          case uy15 =>
            have x2 := (kX'.below hS' kX'.lt).cell (i := 2) rfl
            have t3 := (kp'.below hS' kp'.lt).cell (i := 3) rfl
            have t4 := (kp'.below hS' kp'.lt).cell (i := 4) rfl
            have cx := ((hBw.trans (hS'.mono hBw.size)).cell (p := ⟨bX, oX + k, none⟩) hbX).trans (hcXH.out k hk)
            go_simp
            rfl
          simp only [List.setIfInBounds_toArray, List.set_cons_zero, List.set_cons_succ]
          refine take_op 16 (v := .bool false) rfl (by kernel_rfl) (fun _ _ _ h => h) (by rfl) hS (fun w' hS' => ?uy16) ?uz16
          case uy16 =>
            go_simp
            try simp only [e2]
          simp only [List.setIfInBounds_toArray, List.set_cons_zero, List.set_cons_succ]
          refine take_op 17 (v := ?uv17) rfl (by kernel_rfl) (fun _ _ _ h => h) (by rfl) hS (fun w' hS' => ?uy17) ?uz17
          case uy17 =>
            go_simp
            rfl
          simp only [List.setIfInBounds_toArray, List.set_cons_zero, List.set_cons_succ]
          refine done_ops (by kernel_rfl) ?_
          go_wp2_with fail
          go_roundw
          case rel => exact ⟨k + 1, by omega, by go_num, hBw.trans (hS.mono hBw.size)⟩
          case measure => simp [intOf]; omega
        · have hkk : n = k := by omega
          subst hkk
          clear x2
          have x0 := kX'.cell (i := 0) rfl
          have x1 := kX'.cell (i := 1) rfl
          have x2 := kX'.cell (i := 2) rfl
          have y0 := kY'.cell (i := 0) rfl
          have y1 := kY'.cell (i := 1) rfl
          have y2 := kY'.cell (i := 2) rfl
          have t0 := kp'.cell (i := 0) rfl
          by_cases hneg : p.mul < 0
          · have e1 : decide (p.mul < 0) = true := decide_eq_true hneg
            have e2 : decide (0 < p.mul) = false := decide_eq_false (by omega)
            have hd := Lib.hid (hdn.out (by omega))
            clear hneg
            go_wp2_with fail
            refine (below_any pw ph srYa (some ⟨bX, oX, none⟩) srYc srXc n Y X hlY hlX true hd hn0 _ (by omega) (row_rd' hlY.out rY') (row_rd' hlX.out rX')).mono ?_
            rintro e W9 ⟨rfl, hb⟩
            replace hBr := hBr.trans (hb.mono hBr.size)
            replace kX' := kX'.below hb kX'.lt
            replace kY' := kY'.below hb kY'.lt
            replace kp' := kp'.below hb kp'.lt
            replace rX' := row_below rX' hb
            replace rY' := row_below rY' hb
            clear hb x0 x1 x2 y0 y1 y2 t0
            have x0 := kX'.cell (i := 0) rfl
            have x1 := kX'.cell (i := 1) rfl
            have x2 := kX'.cell (i := 2) rfl
            have y0 := kY'.cell (i := 0) rfl
            have y1 := kY'.cell (i := 1) rfl
            have y2 := kY'.cell (i := 2) rfl
            have t0 := kp'.cell (i := 0) rfl
            go_wp2_with fail
            go_ret
            exact ⟨rfl, hBr⟩
          · have e1 : decide (p.mul < 0) = false := decide_eq_false hneg
            have hu := Lib.hid (hup.out (by omega))
            by_cases hpos : 0 < p.mul
            · have e2 : decide (0 < p.mul) = true := decide_eq_true hpos
              clear hneg hpos
              go_wp2_with fail
              refine (below_any pw ph (some ⟨bX, oX, none⟩) srYa srXc srYc n X Y hlX hlY true hu hn0 _ (by omega) (row_rd' hlX.out rX') (row_rd' hlY.out rY')).mono ?_
              rintro e W9 ⟨rfl, hb⟩
              replace hBr := hBr.trans (hb.mono hBr.size)
              replace kX' := kX'.below hb kX'.lt
              replace kY' := kY'.below hb kY'.lt
              replace kp' := kp'.below hb kp'.lt
              replace rX' := row_below rX' hb
              replace rY' := row_below rY' hb
              clear hb x0 x1 x2 y0 y1 y2 t0
              have x0 := kX'.cell (i := 0) rfl
              have x1 := kX'.cell (i := 1) rfl
              have x2 := kX'.cell (i := 2) rfl
              have y0 := kY'.cell (i := 0) rfl
              have y1 := kY'.cell (i := 1) rfl
              have y2 := kY'.cell (i := 2) rfl
              have t0 := kp'.cell (i := 0) rfl
              go_wp2_with fail
              go_ret
              exact ⟨rfl, hBr⟩
            · have e2 : decide (0 < p.mul) = false := decide_eq_false hpos
              have hd := Lib.hid (hdn.out (by omega))
              clear hneg hpos
              go_wp2_with fail
              refine (below_any pw ph (some ⟨bX, oX, none⟩) srYa srXc srYc n X Y hlX hlY true hu hn0 _ (by omega) (row_rd' hlX.out rX') (row_rd' hlY.out rY')).mono ?_
              rintro e W9 ⟨rfl, hb⟩
              replace hBr := hBr.trans (hb.mono hBr.size)
              replace kX' := kX'.below hb kX'.lt
              replace kY' := kY'.below hb kY'.lt
              replace kp' := kp'.below hb kp'.lt
              replace rX' := row_below rX' hb
              replace rY' := row_below rY' hb
              clear hb x0 x1 x2 y0 y1 y2 t0
              have x0 := kX'.cell (i := 0) rfl
              have x1 := kX'.cell (i := 1) rfl
              have x2 := kX'.cell (i := 2) rfl
              have y0 := kY'.cell (i := 0) rfl
              have y1 := kY'.cell (i := 1) rfl
              have y2 := kY'.cell (i := 2) rfl
              have t0 := kp'.cell (i := 0) rfl
              go_wp2_with fail
              refine (below_any pw ph srYa (some ⟨bX, oX, none⟩) srYc srXc n Y X hlY hlX true hd hn0 _ (by omega) (row_rd' hlY.out rY') (row_rd' hlX.out rX')).mono ?_
              rintro e W9 ⟨rfl, hb⟩
              replace hBr := hBr.trans (hb.mono hBr.size)
              replace kX' := kX'.below hb kX'.lt
              replace kY' := kY'.below hb kY'.lt
              replace kp' := kp'.below hb kp'.lt
              replace rX' := row_below rX' hb
              replace rY' := row_below rY' hb
              clear hb x0 x1 x2 y0 y1 y2 t0
              have x0 := kX'.cell (i := 0) rfl
              have x1 := kX'.cell (i := 1) rfl
              have x2 := kX'.cell (i := 2) rfl
              have y0 := kY'.cell (i := 0) rfl
              have y1 := kY'.cell (i := 1) rfl
              have y2 := kY'.cell (i := 2) rfl
              have t0 := kp'.cell (i := 0) rfl
              go_wp2_with fail
              go_ret
              exact ⟨rfl, hBr⟩

end Go.Proofs.Ytjglfeonoiljlaa
