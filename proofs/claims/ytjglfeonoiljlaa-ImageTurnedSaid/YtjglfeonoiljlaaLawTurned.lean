/- The walk of the law ImageTurned: it returns true, and nothing that lay has turned. -/
import Derived.Test.YtjglfeonoiljlaaTurnLaws
import Derived.Test.YtjglfeonoiljlaaLawWarps
import Derived.Test.YtjglfeonoiljlaaAlive
namespace Go.Proofs.Ytjglfeonoiljlaa
open Go Go.RowKit Go.Shelf
set_option linter.unusedVariables false
set_option linter.unusedSimpArgs false

set_option maxRecDepth 100000 in
set_option maxHeartbeats 16000000 in
theorem law_turned (iw ih : Int) (a : Option Addr) (c n : Nat) (xs : List Int) (hn : Hid (xs.length = n)) (p : PointN) (w : World) (hm : n ≤ 9223372036854775807) (hr : Rd w.heap.size w a xs) :
    Calls Try.prog 15 #[imv iw ih a n c, p.val] w fun e w' => e = .returned (.bool true) ∧ Below w.heap.size w w' := by
  obtain ⟨zv, hzv0⟩ : ∃ v, vld iw ih xs = v := ⟨_, rfl⟩
  have hzv := Lib.hid hzv0
  obtain ⟨pv, hpv0⟩ : ∃ v, p.ok = v := ⟨_, rfl⟩
  have hpv := Lib.hid hpv0
  clear hzv0 hpv0
  cases zv with
  | false =>
    obtain ⟨⟨q1w, q1h, q1px, q1e⟩, hR⟩ : ∃ r, turnS iw ih xs = r := ⟨_, rfl⟩
    have hR1 := Lib.hid hR
    have e1 : q1e = 20 := by
      have := hR
      unfold turnS at this
      rw [if_neg (by rw [hzv.out]; decide)] at this
      simp only [noIm, ImR.mk.injEq] at this
      exact this.2.2.2.symm
    subst e1
    clear hR
    have hB : Below w.heap.size w ((w.alloc (.cells #[.int .i64 iw, .int .i64 ih, .slice a n c] 24)).alloc (.cells p.cells 55)) := below_al (below_al (Below.refl _ _) _) _
    have ka := ((Blk.new w 24 #[.int .i64 iw, .int .i64 ih, .slice a n c]).alloc (.cells p.cells 55))
    have kp := (Blk.new (w.alloc (.cells #[.int .i64 iw, .int .i64 ih, .slice a n c] 24)) 55 p.cells)
    simp only [World.size_alloc] at kp
    obtain ⟨W0, hW⟩ : ∃ W, ((w.alloc (.cells #[.int .i64 iw, .int .i64 ih, .slice a n c] 24)).alloc (.cells p.cells 55)) = W := ⟨_, rfl⟩
    rw [hW] at hB ka kp
    have m0 := ka.cell (i := 0) rfl
    have m1 := ka.cell (i := 1) rfl
    have m2 := ka.cell (i := 2) rfl
    have t0 := kp.cell (i := 0) rfl
    have t1 := kp.cell (i := 1) rfl
    have t2 := kp.cell (i := 2) rfl
    have t3 := kp.cell (i := 3) rfl
    have t4 := kp.cell (i := 4) rfl
    go_enter Try.func15, Try.ntmps15
    go_wp2_with fail
    clear hW
    refine (alive_any _).mono ?_
    rintro e V1 ⟨rfl, hb⟩
    clear m0 m1 m2 t0 t1 t2 t3 t4
    replace ka := ka.below hb ka.lt
    replace kp := kp.below hb kp.lt
    replace hB := hB.trans (hb.mono hB.size)
    have m0 := ka.cell (i := 0) rfl
    have m1 := ka.cell (i := 1) rfl
    have m2 := ka.cell (i := 2) rfl
    have t0 := kp.cell (i := 0) rfl
    have t1 := kp.cell (i := 1) rfl
    have t2 := kp.cell (i := 2) rfl
    have t3 := kp.cell (i := 3) rfl
    have t4 := kp.cell (i := 4) rfl
    clear hb
    go_wp2_with fail
    have hcall := Turn_any iw ih a c n xs hn _ (by omega) ((hr.below (Nat.le_refl _) hB).mono hB.size)
    rw [hR1.out] at hcall
    refine hcall.mono ?_
    clear hcall
    rintro e V2 ⟨⟨v, rfl, hv⟩, hb⟩
    obtain ⟨sl, rfl, hrow⟩ := hv
    obtain ⟨srowxa, srowxc, rfl⟩ := row_slice hrow
    have rowx := row_base hrow hB.size
    clear hrow
    clear m0 m1 m2 t0 t1 t2 t3 t4
    replace ka := ka.below hb ka.lt
    replace kp := kp.below hb kp.lt
    replace hB := hB.trans (hb.mono hB.size)
    have m0 := ka.cell (i := 0) rfl
    have m1 := ka.cell (i := 1) rfl
    have m2 := ka.cell (i := 2) rfl
    have t0 := kp.cell (i := 0) rfl
    have t1 := kp.cell (i := 1) rfl
    have t2 := kp.cell (i := 2) rfl
    have t3 := kp.cell (i := 3) rfl
    have t4 := kp.cell (i := 4) rfl
    clear hb
    obtain ⟨V3, hW⟩ : ∃ V3, V2.alloc (.cells #[.int .i64 q1w, .int .i64 q1h, .slice srowxa q1px.length srowxc] 24) = V3 := ⟨_, rfl⟩
    obtain ⟨bx, hbx⟩ : ∃ bx, V2.heap.size = bx := ⟨_, rfl⟩
    have kx := Blk.new V2 24 #[.int .i64 q1w, .int .i64 q1h, .slice srowxa q1px.length srowxc]
    rw [hW, hbx] at kx
    have hb : Below V2.heap.size V2 V3 := alloc_below hW
    have ka' := ka.below hb ka.lt
    have lkakx := ka.lt
    rw [hbx] at lkakx
    have kp' := kp.below hb kp.lt
    have lkpkx := kp.lt
    rw [hbx] at lkpkx
    have m0' := ka'.cell (i := 0) rfl
    have m1' := ka'.cell (i := 1) rfl
    have m2' := ka'.cell (i := 2) rfl
    have t0' := kp'.cell (i := 0) rfl
    have t1' := kp'.cell (i := 1) rfl
    have t2' := kp'.cell (i := 2) rfl
    have t3' := kp'.cell (i := 3) rfl
    have t4' := kp'.cell (i := 4) rfl
    have x0 := kx.cell (i := 0) rfl
    have x1 := kx.cell (i := 1) rfl
    have x2 := kx.cell (i := 2) rfl
    have fx0 := kx.frozen 0
    have fx1 := kx.frozen 1
    have fx2 := kx.frozen 2
    go_wp2_with fail
    clear hW
    clear hbx
    clear m0 m1 m2 t0 t1 t2 t3 t4
    clear m0' m1' m2' t0' t1' t2' t3' t4'
    replace ka := ka'
    clear ka'
    replace kp := kp'
    clear kp'
    have m0 := ka.cell (i := 0) rfl
    have m1 := ka.cell (i := 1) rfl
    have m2 := ka.cell (i := 2) rfl
    have t0 := kp.cell (i := 0) rfl
    have t1 := kp.cell (i := 1) rfl
    have t2 := kp.cell (i := 2) rfl
    have t3 := kp.cell (i := 3) rfl
    have t4 := kp.cell (i := 4) rfl
    replace rowx := row_below rowx hb
    replace hB := hB.trans (hb.mono hB.size)
    clear hb
    refine (Valid_any iw ih a c xs n hn _ (by omega) ((hr.below (Nat.le_refl _) hB).mono hB.size)).mono ?_
    rintro e V8 ⟨rfl, hb⟩
    rw [hzv.out]
    clear m0 m1 m2 t0 t1 t2 t3 t4 x0 x1 x2 fx0 fx1 fx2
    replace ka := ka.below hb ka.lt
    replace kp := kp.below hb kp.lt
    replace kx := kx.below hb kx.lt
    replace rowx := row_below rowx hb
    replace hB := hB.trans (hb.mono hB.size)
    have m0 := ka.cell (i := 0) rfl
    have m1 := ka.cell (i := 1) rfl
    have m2 := ka.cell (i := 2) rfl
    have t0 := kp.cell (i := 0) rfl
    have t1 := kp.cell (i := 1) rfl
    have t2 := kp.cell (i := 2) rfl
    have t3 := kp.cell (i := 3) rfl
    have t4 := kp.cell (i := 4) rfl
    have x0 := kx.cell (i := 0) rfl
    have x1 := kx.cell (i := 1) rfl
    have x2 := kx.cell (i := 2) rfl
    have fx0 := kx.frozen 0
    have fx1 := kx.frozen 1
    have fx2 := kx.frozen 2
    clear hb
    go_wp2_with fail
    go_ret
    exact ⟨rfl, hB⟩
  | true =>
    obtain ⟨⟨i1, i2⟩, ⟨i3, i4⟩, hl, ha⟩ := vld_true hzv.out
    obtain ⟨pw, rfl⟩ : ∃ pw : Nat, iw = (pw : Int) := ⟨iw.toNat, by omega⟩
    obtain ⟨ph, rfl⟩ : ∃ ph : Nat, ih = (ph : Int) := ⟨ih.toNat, by omega⟩
    have hN : pw * ph = n := by
      have h2 : ((pw * ph : Nat) : Int) = (pw : Int) * ph := by simp
      have := hn.out
      omega
    have hx : rng xs := ha
    have hlx : xs.length = pw * ph := by rw [hN]; exact hn.out
    have hvi := fun (g : Int → Int → Int) => vld_img (pw := pw) (ph := ph) (by omega) (by omega) (by omega) (by omega) g
    have hvj := fun (g : Int → Int → Int) => vld_img (pw := ph) (ph := pw) (by omega) (by omega) (by omega) (by omega) g
    have hlxs := hn
    have hST1 := Lib.hid (show turnS pw ph xs = { w := ph, h := pw, px := turnL pw ph xs, err := 0 } from turnS_ok hzv.out)
    have hST2 := Lib.hid (show turnS ph pw (turnL pw ph xs) = { w := pw, h := ph, px := turnL ph pw (turnL pw ph xs), err := 0 } from turnS_ok (hvj _))
    have hST3 := Lib.hid (show turnS pw ph (turnL ph pw (turnL pw ph xs)) = { w := ph, h := pw, px := turnL pw ph (turnL ph pw (turnL pw ph xs)), err := 0 } from turnS_ok (hvi _))
    have hST4 := Lib.hid (show turnS ph pw (turnL pw ph (turnL ph pw (turnL pw ph xs))) = { w := pw, h := ph, px := xs, err := 0 } from (turnS_ok (xs := turnL pw ph (turnL ph pw (turnL pw ph xs))) (hvj _)).trans (by rw [turn4 hlx hx]))
    have hSF1 := Lib.hid (show flipS pw ph xs = { w := pw, h := ph, px := flipL pw ph xs, err := 0 } from flipS_ok hzv.out)
    have hSF2 := Lib.hid (show flipS pw ph (flipL pw ph xs) = { w := pw, h := ph, px := xs, err := 0 } from (flipS_ok (xs := flipL pw ph xs) (hvi _)).trans (by rw [flip2 hlx hx]))
    have hSG1 := Lib.hid (show turnS pw ph (flipL pw ph xs) = { w := ph, h := pw, px := turnL pw ph (flipL pw ph xs), err := 0 } from turnS_ok (hvi _))
    have hSH1 := Lib.hid (show flipS ph pw (turnL pw ph (flipL pw ph xs)) = { w := ph, h := pw, px := flipL ph pw (turnL pw ph (flipL pw ph xs)), err := 0 } from flipS_ok (hvj _))
    have hSX1 := Lib.hid (show turnS ph pw (flipL ph pw (turnL pw ph (flipL pw ph xs))) = { w := pw, h := ph, px := xs, err := 0 } from (turnS_ok (xs := flipL ph pw (turnL pw ph (flipL pw ph xs))) (hvj _)).trans (by rw [ftft hlx hx]))
    have hpt0 : pv = true → ∃ Y1 Z1 W1 B1 : List Int, pointS pw ph xs p = { w := pw, h := ph, px := Y1, err := 0 } ∧ turnS pw ph Y1 = { w := ph, h := pw, px := Z1, err := 0 } ∧ flipS ph pw Z1 = { w := ph, h := pw, px := W1, err := 0 } ∧ flipS ph pw (turnL pw ph xs) = { w := ph, h := pw, px := B1, err := 0 } ∧ pointS ph pw B1 p = { w := ph, h := pw, px := W1, err := 0 } ∧ Y1.length = n ∧ Z1.length = n ∧ W1.length = n ∧ B1.length = n := fun h => by
      have hp : p.ok = true := by rw [hpv.out]; exact h
      refine ⟨ptL pw ph p xs, turnL pw ph (ptL pw ph p xs), flipL ph pw (turnL pw ph (ptL pw ph p xs)), flipL ph pw (turnL pw ph xs), pointS_ok hzv.out hp, turnS_ok (hvi _), flipS_ok (hvj _), flipS_ok (hvj _), ?_, ptL_len.trans hN, turnL_len.trans hN, flipL_len.trans ((Nat.mul_comm _ _).trans hN), flipL_len.trans ((Nat.mul_comm _ _).trans hN)⟩
      rw [← point_through hp hx]
      exact pointS_ok (hvj _) hp
    have hpt := Lib.hid hpt0
    clear hpt0
    have hlT1 := Lib.hid (show (turnL pw ph xs).length = n from turnL_len.trans hN)
    have hlT2 := Lib.hid (show (turnL ph pw (turnL pw ph xs)).length = n from turnL_len.trans ((Nat.mul_comm _ _).trans hN))
    have hlT3 := Lib.hid (show (turnL pw ph (turnL ph pw (turnL pw ph xs))).length = n from turnL_len.trans hN)
    have hlF1 := Lib.hid (show (flipL pw ph xs).length = n from flipL_len.trans hN)
    have hlG1 := Lib.hid (show (turnL pw ph (flipL pw ph xs)).length = n from turnL_len.trans hN)
    have hlH1 := Lib.hid (show (flipL ph pw (turnL pw ph (flipL pw ph xs))).length = n from flipL_len.trans ((Nat.mul_comm _ _).trans hN))
    clear hx hlx hvi hvj hl ha hN
    generalize turnL pw ph (turnL ph pw (turnL pw ph xs)) = T3 at *
    generalize flipL ph pw (turnL pw ph (flipL pw ph xs)) = H1 at *
    generalize turnL ph pw (turnL pw ph xs) = T2 at *
    generalize turnL pw ph (flipL pw ph xs) = G1 at *
    generalize turnL pw ph xs = T1 at *
    generalize flipL pw ph xs = F1 at *
    have hB : Below w.heap.size w ((w.alloc (.cells #[.int .i64 pw, .int .i64 ph, .slice a n c] 24)).alloc (.cells p.cells 55)) := below_al (below_al (Below.refl _ _) _) _
    have ka := ((Blk.new w 24 #[.int .i64 pw, .int .i64 ph, .slice a n c]).alloc (.cells p.cells 55))
    have kp := (Blk.new (w.alloc (.cells #[.int .i64 pw, .int .i64 ph, .slice a n c] 24)) 55 p.cells)
    simp only [World.size_alloc] at kp
    obtain ⟨W0, hW⟩ : ∃ W, ((w.alloc (.cells #[.int .i64 pw, .int .i64 ph, .slice a n c] 24)).alloc (.cells p.cells 55)) = W := ⟨_, rfl⟩
    rw [hW] at hB ka kp
    have m0 := ka.cell (i := 0) rfl
    have m1 := ka.cell (i := 1) rfl
    have m2 := ka.cell (i := 2) rfl
    have t0 := kp.cell (i := 0) rfl
    have t1 := kp.cell (i := 1) rfl
    have t2 := kp.cell (i := 2) rfl
    have t3 := kp.cell (i := 3) rfl
    have t4 := kp.cell (i := 4) rfl
    go_enter Try.func15, Try.ntmps15
    go_wp2_with fail
    clear hW
    refine (alive_any _).mono ?_
    rintro e V1 ⟨rfl, hb⟩
    clear m0 m1 m2 t0 t1 t2 t3 t4
    replace ka := ka.below hb ka.lt
    replace kp := kp.below hb kp.lt
    replace hB := hB.trans (hb.mono hB.size)
    have m0 := ka.cell (i := 0) rfl
    have m1 := ka.cell (i := 1) rfl
    have m2 := ka.cell (i := 2) rfl
    have t0 := kp.cell (i := 0) rfl
    have t1 := kp.cell (i := 1) rfl
    have t2 := kp.cell (i := 2) rfl
    have t3 := kp.cell (i := 3) rfl
    have t4 := kp.cell (i := 4) rfl
    clear hb
    go_wp2_with fail
    have hcall := Turn_any pw ph a c n xs hn _ (by omega) ((hr.below (Nat.le_refl _) hB).mono hB.size)
    rw [hST1.out] at hcall
    refine hcall.mono ?_
    clear hcall
    rintro e V2 ⟨⟨v, hev, sl, hvl, hrow⟩, hb⟩
    have rT1 : V2.ownsRow w.heap.size 3 1 sl n ((T1).map (Value.int .i64)) := row_base (row_len (k := (T1).length) hlT1.out hrow) hB.size
    obtain ⟨srT1a, srT1c, rfl⟩ := row_slice rT1
    have he : e = .returned (.tuple #[.agg #[.int .i64 ph, .int .i64 pw, .slice srT1a n srT1c], .int .i64 0]) := by rw [hev, hvl]
    subst he
    clear hrow hev hvl
    clear m0 m1 m2 t0 t1 t2 t3 t4
    replace ka := ka.below hb ka.lt
    replace kp := kp.below hb kp.lt
    replace hB := hB.trans (hb.mono hB.size)
    have m0 := ka.cell (i := 0) rfl
    have m1 := ka.cell (i := 1) rfl
    have m2 := ka.cell (i := 2) rfl
    have t0 := kp.cell (i := 0) rfl
    have t1 := kp.cell (i := 1) rfl
    have t2 := kp.cell (i := 2) rfl
    have t3 := kp.cell (i := 3) rfl
    have t4 := kp.cell (i := 4) rfl
    clear hb
    obtain ⟨V3, hW⟩ : ∃ V3, V2.alloc (.cells #[.int .i64 ph, .int .i64 pw, .slice srT1a n srT1c] 24) = V3 := ⟨_, rfl⟩
    obtain ⟨bkA, hbx⟩ : ∃ bkA, V2.heap.size = bkA := ⟨_, rfl⟩
    have kA := Blk.new V2 24 #[.int .i64 ph, .int .i64 pw, .slice srT1a n srT1c]
    rw [hW, hbx] at kA
    have hb : Below V2.heap.size V2 V3 := alloc_below hW
    have ka' := ka.below hb ka.lt
    have lkakA := ka.lt
    rw [hbx] at lkakA
    have kp' := kp.below hb kp.lt
    have lkpkA := kp.lt
    rw [hbx] at lkpkA
    have m0' := ka'.cell (i := 0) rfl
    have m1' := ka'.cell (i := 1) rfl
    have m2' := ka'.cell (i := 2) rfl
    have t0' := kp'.cell (i := 0) rfl
    have t1' := kp'.cell (i := 1) rfl
    have t2' := kp'.cell (i := 2) rfl
    have t3' := kp'.cell (i := 3) rfl
    have t4' := kp'.cell (i := 4) rfl
    have xA0 := kA.cell (i := 0) rfl
    have xA1 := kA.cell (i := 1) rfl
    have xA2 := kA.cell (i := 2) rfl
    have fxA0 := kA.frozen 0
    have fxA1 := kA.frozen 1
    have fxA2 := kA.frozen 2
    go_wp2_with fail
    clear hW
    clear hbx
    clear m0 m1 m2 t0 t1 t2 t3 t4
    clear m0' m1' m2' t0' t1' t2' t3' t4'
    replace ka := ka'
    clear ka'
    replace kp := kp'
    clear kp'
    have m0 := ka.cell (i := 0) rfl
    have m1 := ka.cell (i := 1) rfl
    have m2 := ka.cell (i := 2) rfl
    have t0 := kp.cell (i := 0) rfl
    have t1 := kp.cell (i := 1) rfl
    have t2 := kp.cell (i := 2) rfl
    have t3 := kp.cell (i := 3) rfl
    have t4 := kp.cell (i := 4) rfl
    replace rT1 := row_below rT1 hb
    replace hB := hB.trans (hb.mono hB.size)
    clear hb
    refine (Valid_any pw ph a c xs n hn _ (by omega) ((hr.below (Nat.le_refl _) hB).mono hB.size)).mono ?_
    rintro e V8 ⟨rfl, hb⟩
    rw [hzv.out]
    clear m0 m1 m2 t0 t1 t2 t3 t4 xA0 xA1 xA2 fxA0 fxA1 fxA2
    replace ka := ka.below hb ka.lt
    replace kp := kp.below hb kp.lt
    replace kA := kA.below hb kA.lt
    replace rT1 := row_below rT1 hb
    replace hB := hB.trans (hb.mono hB.size)
    have m0 := ka.cell (i := 0) rfl
    have m1 := ka.cell (i := 1) rfl
    have m2 := ka.cell (i := 2) rfl
    have t0 := kp.cell (i := 0) rfl
    have t1 := kp.cell (i := 1) rfl
    have t2 := kp.cell (i := 2) rfl
    have t3 := kp.cell (i := 3) rfl
    have t4 := kp.cell (i := 4) rfl
    have xA0 := kA.cell (i := 0) rfl
    have xA1 := kA.cell (i := 1) rfl
    have xA2 := kA.cell (i := 2) rfl
    have fxA0 := kA.frozen 0
    have fxA1 := kA.frozen 1
    have fxA2 := kA.frozen 2
    clear hb
    go_wp2_with fail
    have hcall := Turn_any ph pw srT1a srT1c n T1 hlT1 _ (by omega) (row_rd' hlT1.out rT1)
    rw [hST2.out] at hcall
    refine hcall.mono ?_
    clear hcall
    rintro e V4 ⟨⟨v, hev, sl, hvl, hrow⟩, hb⟩
    have rT2 : V4.ownsRow w.heap.size 3 1 sl n ((T2).map (Value.int .i64)) := row_base (row_len (k := (T2).length) hlT2.out hrow) hB.size
    obtain ⟨srT2a, srT2c, rfl⟩ := row_slice rT2
    have he : e = .returned (.tuple #[.agg #[.int .i64 pw, .int .i64 ph, .slice srT2a n srT2c], .int .i64 0]) := by rw [hev, hvl]
    subst he
    clear hrow hev hvl
    clear m0 m1 m2 t0 t1 t2 t3 t4 xA0 xA1 xA2 fxA0 fxA1 fxA2
    replace ka := ka.below hb ka.lt
    replace kp := kp.below hb kp.lt
    replace kA := kA.below hb kA.lt
    replace rT1 := row_below rT1 hb
    replace hB := hB.trans (hb.mono hB.size)
    have m0 := ka.cell (i := 0) rfl
    have m1 := ka.cell (i := 1) rfl
    have m2 := ka.cell (i := 2) rfl
    have t0 := kp.cell (i := 0) rfl
    have t1 := kp.cell (i := 1) rfl
    have t2 := kp.cell (i := 2) rfl
    have t3 := kp.cell (i := 3) rfl
    have t4 := kp.cell (i := 4) rfl
    have xA0 := kA.cell (i := 0) rfl
    have xA1 := kA.cell (i := 1) rfl
    have xA2 := kA.cell (i := 2) rfl
    have fxA0 := kA.frozen 0
    have fxA1 := kA.frozen 1
    have fxA2 := kA.frozen 2
    clear hb
    obtain ⟨V5, hW⟩ : ∃ V5, V4.alloc (.cells #[.int .i64 pw, .int .i64 ph, .slice srT2a n srT2c] 24) = V5 := ⟨_, rfl⟩
    obtain ⟨bkB, hbx⟩ : ∃ bkB, V4.heap.size = bkB := ⟨_, rfl⟩
    have kB := Blk.new V4 24 #[.int .i64 pw, .int .i64 ph, .slice srT2a n srT2c]
    rw [hW, hbx] at kB
    have hb : Below V4.heap.size V4 V5 := alloc_below hW
    have ka' := ka.below hb ka.lt
    have lkakB := ka.lt
    rw [hbx] at lkakB
    have kp' := kp.below hb kp.lt
    have lkpkB := kp.lt
    rw [hbx] at lkpkB
    have kA' := kA.below hb kA.lt
    have lkAkB := kA.lt
    rw [hbx] at lkAkB
    have m0' := ka'.cell (i := 0) rfl
    have m1' := ka'.cell (i := 1) rfl
    have m2' := ka'.cell (i := 2) rfl
    have t0' := kp'.cell (i := 0) rfl
    have t1' := kp'.cell (i := 1) rfl
    have t2' := kp'.cell (i := 2) rfl
    have t3' := kp'.cell (i := 3) rfl
    have t4' := kp'.cell (i := 4) rfl
    have xA0' := kA'.cell (i := 0) rfl
    have xA1' := kA'.cell (i := 1) rfl
    have xA2' := kA'.cell (i := 2) rfl
    have fxA0' := kA'.frozen 0
    have fxA1' := kA'.frozen 1
    have fxA2' := kA'.frozen 2
    have xB0 := kB.cell (i := 0) rfl
    have xB1 := kB.cell (i := 1) rfl
    have xB2 := kB.cell (i := 2) rfl
    have fxB0 := kB.frozen 0
    have fxB1 := kB.frozen 1
    have fxB2 := kB.frozen 2
    go_wp2_with fail
    clear hW
    clear hbx
    clear m0 m1 m2 t0 t1 t2 t3 t4 xA0 xA1 xA2 fxA0 fxA1 fxA2
    clear m0' m1' m2' t0' t1' t2' t3' t4' xA0' xA1' xA2' fxA0' fxA1' fxA2'
    replace ka := ka'
    clear ka'
    replace kp := kp'
    clear kp'
    replace kA := kA'
    clear kA'
    have m0 := ka.cell (i := 0) rfl
    have m1 := ka.cell (i := 1) rfl
    have m2 := ka.cell (i := 2) rfl
    have t0 := kp.cell (i := 0) rfl
    have t1 := kp.cell (i := 1) rfl
    have t2 := kp.cell (i := 2) rfl
    have t3 := kp.cell (i := 3) rfl
    have t4 := kp.cell (i := 4) rfl
    have xA0 := kA.cell (i := 0) rfl
    have xA1 := kA.cell (i := 1) rfl
    have xA2 := kA.cell (i := 2) rfl
    have fxA0 := kA.frozen 0
    have fxA1 := kA.frozen 1
    have fxA2 := kA.frozen 2
    replace rT1 := row_below rT1 hb
    replace rT2 := row_below rT2 hb
    replace hB := hB.trans (hb.mono hB.size)
    clear hb
    clear rT1
    have hcall := Turn_any pw ph srT2a srT2c n T2 hlT2 _ (by omega) (row_rd' hlT2.out rT2)
    rw [hST3.out] at hcall
    refine hcall.mono ?_
    clear hcall
    rintro e V6 ⟨⟨v, hev, sl, hvl, hrow⟩, hb⟩
    have rT3 : V6.ownsRow w.heap.size 3 1 sl n ((T3).map (Value.int .i64)) := row_base (row_len (k := (T3).length) hlT3.out hrow) hB.size
    obtain ⟨srT3a, srT3c, rfl⟩ := row_slice rT3
    have he : e = .returned (.tuple #[.agg #[.int .i64 ph, .int .i64 pw, .slice srT3a n srT3c], .int .i64 0]) := by rw [hev, hvl]
    subst he
    clear hrow hev hvl
    clear m0 m1 m2 t0 t1 t2 t3 t4 xA0 xA1 xA2 fxA0 fxA1 fxA2 xB0 xB1 xB2 fxB0 fxB1 fxB2
    replace ka := ka.below hb ka.lt
    replace kp := kp.below hb kp.lt
    replace kA := kA.below hb kA.lt
    replace kB := kB.below hb kB.lt
    replace rT2 := row_below rT2 hb
    replace hB := hB.trans (hb.mono hB.size)
    have m0 := ka.cell (i := 0) rfl
    have m1 := ka.cell (i := 1) rfl
    have m2 := ka.cell (i := 2) rfl
    have t0 := kp.cell (i := 0) rfl
    have t1 := kp.cell (i := 1) rfl
    have t2 := kp.cell (i := 2) rfl
    have t3 := kp.cell (i := 3) rfl
    have t4 := kp.cell (i := 4) rfl
    have xA0 := kA.cell (i := 0) rfl
    have xA1 := kA.cell (i := 1) rfl
    have xA2 := kA.cell (i := 2) rfl
    have fxA0 := kA.frozen 0
    have fxA1 := kA.frozen 1
    have fxA2 := kA.frozen 2
    have xB0 := kB.cell (i := 0) rfl
    have xB1 := kB.cell (i := 1) rfl
    have xB2 := kB.cell (i := 2) rfl
    have fxB0 := kB.frozen 0
    have fxB1 := kB.frozen 1
    have fxB2 := kB.frozen 2
    clear hb
    obtain ⟨V7, hW⟩ : ∃ V7, V6.alloc (.cells #[.int .i64 ph, .int .i64 pw, .slice srT3a n srT3c] 24) = V7 := ⟨_, rfl⟩
    obtain ⟨bkC, hbx⟩ : ∃ bkC, V6.heap.size = bkC := ⟨_, rfl⟩
    have kC := Blk.new V6 24 #[.int .i64 ph, .int .i64 pw, .slice srT3a n srT3c]
    rw [hW, hbx] at kC
    have hb : Below V6.heap.size V6 V7 := alloc_below hW
    have ka' := ka.below hb ka.lt
    have lkakC := ka.lt
    rw [hbx] at lkakC
    have kp' := kp.below hb kp.lt
    have lkpkC := kp.lt
    rw [hbx] at lkpkC
    have kA' := kA.below hb kA.lt
    have lkAkC := kA.lt
    rw [hbx] at lkAkC
    have kB' := kB.below hb kB.lt
    have lkBkC := kB.lt
    rw [hbx] at lkBkC
    have m0' := ka'.cell (i := 0) rfl
    have m1' := ka'.cell (i := 1) rfl
    have m2' := ka'.cell (i := 2) rfl
    have t0' := kp'.cell (i := 0) rfl
    have t1' := kp'.cell (i := 1) rfl
    have t2' := kp'.cell (i := 2) rfl
    have t3' := kp'.cell (i := 3) rfl
    have t4' := kp'.cell (i := 4) rfl
    have xA0' := kA'.cell (i := 0) rfl
    have xA1' := kA'.cell (i := 1) rfl
    have xA2' := kA'.cell (i := 2) rfl
    have fxA0' := kA'.frozen 0
    have fxA1' := kA'.frozen 1
    have fxA2' := kA'.frozen 2
    have xB0' := kB'.cell (i := 0) rfl
    have xB1' := kB'.cell (i := 1) rfl
    have xB2' := kB'.cell (i := 2) rfl
    have fxB0' := kB'.frozen 0
    have fxB1' := kB'.frozen 1
    have fxB2' := kB'.frozen 2
    have xC0 := kC.cell (i := 0) rfl
    have xC1 := kC.cell (i := 1) rfl
    have xC2 := kC.cell (i := 2) rfl
    have fxC0 := kC.frozen 0
    have fxC1 := kC.frozen 1
    have fxC2 := kC.frozen 2
    go_wp2_with fail
    clear hW
    clear hbx
    clear m0 m1 m2 t0 t1 t2 t3 t4 xA0 xA1 xA2 fxA0 fxA1 fxA2 xB0 xB1 xB2 fxB0 fxB1 fxB2
    clear m0' m1' m2' t0' t1' t2' t3' t4' xA0' xA1' xA2' fxA0' fxA1' fxA2' xB0' xB1' xB2' fxB0' fxB1' fxB2'
    replace ka := ka'
    clear ka'
    replace kp := kp'
    clear kp'
    replace kA := kA'
    clear kA'
    replace kB := kB'
    clear kB'
    have m0 := ka.cell (i := 0) rfl
    have m1 := ka.cell (i := 1) rfl
    have m2 := ka.cell (i := 2) rfl
    have t0 := kp.cell (i := 0) rfl
    have t1 := kp.cell (i := 1) rfl
    have t2 := kp.cell (i := 2) rfl
    have t3 := kp.cell (i := 3) rfl
    have t4 := kp.cell (i := 4) rfl
    have xA0 := kA.cell (i := 0) rfl
    have xA1 := kA.cell (i := 1) rfl
    have xA2 := kA.cell (i := 2) rfl
    have fxA0 := kA.frozen 0
    have fxA1 := kA.frozen 1
    have fxA2 := kA.frozen 2
    have xB0 := kB.cell (i := 0) rfl
    have xB1 := kB.cell (i := 1) rfl
    have xB2 := kB.cell (i := 2) rfl
    have fxB0 := kB.frozen 0
    have fxB1 := kB.frozen 1
    have fxB2 := kB.frozen 2
    replace rT2 := row_below rT2 hb
    replace rT3 := row_below rT3 hb
    replace hB := hB.trans (hb.mono hB.size)
    clear hb
    clear rT2
    have hcall := Turn_any ph pw srT3a srT3c n T3 hlT3 _ (by omega) (row_rd' hlT3.out rT3)
    rw [hST4.out] at hcall
    refine hcall.mono ?_
    clear hcall
    rintro e V8 ⟨⟨v, hev, sl, hvl, hrow⟩, hb⟩
    have rT4 : V8.ownsRow w.heap.size 3 1 sl n ((xs).map (Value.int .i64)) := row_base (row_len (k := (xs).length) hlxs.out hrow) hB.size
    obtain ⟨srT4a, srT4c, rfl⟩ := row_slice rT4
    have he : e = .returned (.tuple #[.agg #[.int .i64 pw, .int .i64 ph, .slice srT4a n srT4c], .int .i64 0]) := by rw [hev, hvl]
    subst he
    clear hrow hev hvl
    clear m0 m1 m2 t0 t1 t2 t3 t4 xA0 xA1 xA2 fxA0 fxA1 fxA2 xB0 xB1 xB2 fxB0 fxB1 fxB2 xC0 xC1 xC2 fxC0 fxC1 fxC2
    replace ka := ka.below hb ka.lt
    replace kp := kp.below hb kp.lt
    replace kA := kA.below hb kA.lt
    replace kB := kB.below hb kB.lt
    replace kC := kC.below hb kC.lt
    replace rT3 := row_below rT3 hb
    replace hB := hB.trans (hb.mono hB.size)
    have m0 := ka.cell (i := 0) rfl
    have m1 := ka.cell (i := 1) rfl
    have m2 := ka.cell (i := 2) rfl
    have t0 := kp.cell (i := 0) rfl
    have t1 := kp.cell (i := 1) rfl
    have t2 := kp.cell (i := 2) rfl
    have t3 := kp.cell (i := 3) rfl
    have t4 := kp.cell (i := 4) rfl
    have xA0 := kA.cell (i := 0) rfl
    have xA1 := kA.cell (i := 1) rfl
    have xA2 := kA.cell (i := 2) rfl
    have fxA0 := kA.frozen 0
    have fxA1 := kA.frozen 1
    have fxA2 := kA.frozen 2
    have xB0 := kB.cell (i := 0) rfl
    have xB1 := kB.cell (i := 1) rfl
    have xB2 := kB.cell (i := 2) rfl
    have fxB0 := kB.frozen 0
    have fxB1 := kB.frozen 1
    have fxB2 := kB.frozen 2
    have xC0 := kC.cell (i := 0) rfl
    have xC1 := kC.cell (i := 1) rfl
    have xC2 := kC.cell (i := 2) rfl
    have fxC0 := kC.frozen 0
    have fxC1 := kC.frozen 1
    have fxC2 := kC.frozen 2
    clear hb
    obtain ⟨V9, hW⟩ : ∃ V9, V8.alloc (.cells #[.int .i64 pw, .int .i64 ph, .slice srT4a n srT4c] 24) = V9 := ⟨_, rfl⟩
    obtain ⟨bkD, hbx⟩ : ∃ bkD, V8.heap.size = bkD := ⟨_, rfl⟩
    have kD := Blk.new V8 24 #[.int .i64 pw, .int .i64 ph, .slice srT4a n srT4c]
    rw [hW, hbx] at kD
    have hb : Below V8.heap.size V8 V9 := alloc_below hW
    have ka' := ka.below hb ka.lt
    have lkakD := ka.lt
    rw [hbx] at lkakD
    have kp' := kp.below hb kp.lt
    have lkpkD := kp.lt
    rw [hbx] at lkpkD
    have kA' := kA.below hb kA.lt
    have lkAkD := kA.lt
    rw [hbx] at lkAkD
    have kB' := kB.below hb kB.lt
    have lkBkD := kB.lt
    rw [hbx] at lkBkD
    have kC' := kC.below hb kC.lt
    have lkCkD := kC.lt
    rw [hbx] at lkCkD
    have m0' := ka'.cell (i := 0) rfl
    have m1' := ka'.cell (i := 1) rfl
    have m2' := ka'.cell (i := 2) rfl
    have t0' := kp'.cell (i := 0) rfl
    have t1' := kp'.cell (i := 1) rfl
    have t2' := kp'.cell (i := 2) rfl
    have t3' := kp'.cell (i := 3) rfl
    have t4' := kp'.cell (i := 4) rfl
    have xA0' := kA'.cell (i := 0) rfl
    have xA1' := kA'.cell (i := 1) rfl
    have xA2' := kA'.cell (i := 2) rfl
    have fxA0' := kA'.frozen 0
    have fxA1' := kA'.frozen 1
    have fxA2' := kA'.frozen 2
    have xB0' := kB'.cell (i := 0) rfl
    have xB1' := kB'.cell (i := 1) rfl
    have xB2' := kB'.cell (i := 2) rfl
    have fxB0' := kB'.frozen 0
    have fxB1' := kB'.frozen 1
    have fxB2' := kB'.frozen 2
    have xC0' := kC'.cell (i := 0) rfl
    have xC1' := kC'.cell (i := 1) rfl
    have xC2' := kC'.cell (i := 2) rfl
    have fxC0' := kC'.frozen 0
    have fxC1' := kC'.frozen 1
    have fxC2' := kC'.frozen 2
    have xD0 := kD.cell (i := 0) rfl
    have xD1 := kD.cell (i := 1) rfl
    have xD2 := kD.cell (i := 2) rfl
    have fxD0 := kD.frozen 0
    have fxD1 := kD.frozen 1
    have fxD2 := kD.frozen 2
    go_wp2_with fail
    clear hW
    clear hbx
    clear m0 m1 m2 t0 t1 t2 t3 t4 xA0 xA1 xA2 fxA0 fxA1 fxA2 xB0 xB1 xB2 fxB0 fxB1 fxB2 xC0 xC1 xC2 fxC0 fxC1 fxC2
    clear m0' m1' m2' t0' t1' t2' t3' t4' xA0' xA1' xA2' fxA0' fxA1' fxA2' xB0' xB1' xB2' fxB0' fxB1' fxB2' xC0' xC1' xC2' fxC0' fxC1' fxC2'
    replace ka := ka'
    clear ka'
    replace kp := kp'
    clear kp'
    replace kA := kA'
    clear kA'
    replace kB := kB'
    clear kB'
    replace kC := kC'
    clear kC'
    have m0 := ka.cell (i := 0) rfl
    have m1 := ka.cell (i := 1) rfl
    have m2 := ka.cell (i := 2) rfl
    have t0 := kp.cell (i := 0) rfl
    have t1 := kp.cell (i := 1) rfl
    have t2 := kp.cell (i := 2) rfl
    have t3 := kp.cell (i := 3) rfl
    have t4 := kp.cell (i := 4) rfl
    have xA0 := kA.cell (i := 0) rfl
    have xA1 := kA.cell (i := 1) rfl
    have xA2 := kA.cell (i := 2) rfl
    have fxA0 := kA.frozen 0
    have fxA1 := kA.frozen 1
    have fxA2 := kA.frozen 2
    have xB0 := kB.cell (i := 0) rfl
    have xB1 := kB.cell (i := 1) rfl
    have xB2 := kB.cell (i := 2) rfl
    have fxB0 := kB.frozen 0
    have fxB1 := kB.frozen 1
    have fxB2 := kB.frozen 2
    have xC0 := kC.cell (i := 0) rfl
    have xC1 := kC.cell (i := 1) rfl
    have xC2 := kC.cell (i := 2) rfl
    have fxC0 := kC.frozen 0
    have fxC1 := kC.frozen 1
    have fxC2 := kC.frozen 2
    replace rT3 := row_below rT3 hb
    replace rT4 := row_below rT4 hb
    replace hB := hB.trans (hb.mono hB.size)
    clear hb
    clear rT3
    refine (Same_eq pw ph srT4a a srT4c c n xs hlxs _ (by omega) (row_rd' hlxs.out rT4) ((hr.below (Nat.le_refl _) hB).mono hB.size)).mono ?_
    rintro e V10 ⟨rfl, hb⟩
    clear m0 m1 m2 t0 t1 t2 t3 t4 xA0 xA1 xA2 fxA0 fxA1 fxA2 xB0 xB1 xB2 fxB0 fxB1 fxB2 xC0 xC1 xC2 fxC0 fxC1 fxC2 xD0 xD1 xD2 fxD0 fxD1 fxD2
    replace ka := ka.below hb ka.lt
    replace kp := kp.below hb kp.lt
    replace kA := kA.below hb kA.lt
    replace kB := kB.below hb kB.lt
    replace kC := kC.below hb kC.lt
    replace kD := kD.below hb kD.lt
    replace rT4 := row_below rT4 hb
    replace hB := hB.trans (hb.mono hB.size)
    have m0 := ka.cell (i := 0) rfl
    have m1 := ka.cell (i := 1) rfl
    have m2 := ka.cell (i := 2) rfl
    have t0 := kp.cell (i := 0) rfl
    have t1 := kp.cell (i := 1) rfl
    have t2 := kp.cell (i := 2) rfl
    have t3 := kp.cell (i := 3) rfl
    have t4 := kp.cell (i := 4) rfl
    have xA0 := kA.cell (i := 0) rfl
    have xA1 := kA.cell (i := 1) rfl
    have xA2 := kA.cell (i := 2) rfl
    have fxA0 := kA.frozen 0
    have fxA1 := kA.frozen 1
    have fxA2 := kA.frozen 2
    have xB0 := kB.cell (i := 0) rfl
    have xB1 := kB.cell (i := 1) rfl
    have xB2 := kB.cell (i := 2) rfl
    have fxB0 := kB.frozen 0
    have fxB1 := kB.frozen 1
    have fxB2 := kB.frozen 2
    have xC0 := kC.cell (i := 0) rfl
    have xC1 := kC.cell (i := 1) rfl
    have xC2 := kC.cell (i := 2) rfl
    have fxC0 := kC.frozen 0
    have fxC1 := kC.frozen 1
    have fxC2 := kC.frozen 2
    have xD0 := kD.cell (i := 0) rfl
    have xD1 := kD.cell (i := 1) rfl
    have xD2 := kD.cell (i := 2) rfl
    have fxD0 := kD.frozen 0
    have fxD1 := kD.frozen 1
    have fxD2 := kD.frozen 2
    clear hb
    clear rT4
    go_wp2_with fail
    have hcall := Flip_any pw ph a c n xs hn _ (by omega) ((hr.below (Nat.le_refl _) hB).mono hB.size)
    rw [hSF1.out] at hcall
    refine hcall.mono ?_
    clear hcall
    rintro e V11 ⟨⟨v, hev, sl, hvl, hrow⟩, hb⟩
    have rF1 : V11.ownsRow w.heap.size 3 1 sl n ((F1).map (Value.int .i64)) := row_base (row_len (k := (F1).length) hlF1.out hrow) hB.size
    obtain ⟨srF1a, srF1c, rfl⟩ := row_slice rF1
    have he : e = .returned (.tuple #[.agg #[.int .i64 pw, .int .i64 ph, .slice srF1a n srF1c], .int .i64 0]) := by rw [hev, hvl]
    subst he
    clear hrow hev hvl
    clear m0 m1 m2 t0 t1 t2 t3 t4 xA0 xA1 xA2 fxA0 fxA1 fxA2 xB0 xB1 xB2 fxB0 fxB1 fxB2 xC0 xC1 xC2 fxC0 fxC1 fxC2 xD0 xD1 xD2 fxD0 fxD1 fxD2
    replace ka := ka.below hb ka.lt
    replace kp := kp.below hb kp.lt
    replace kA := kA.below hb kA.lt
    replace kB := kB.below hb kB.lt
    replace kC := kC.below hb kC.lt
    replace kD := kD.below hb kD.lt
    replace hB := hB.trans (hb.mono hB.size)
    have m0 := ka.cell (i := 0) rfl
    have m1 := ka.cell (i := 1) rfl
    have m2 := ka.cell (i := 2) rfl
    have t0 := kp.cell (i := 0) rfl
    have t1 := kp.cell (i := 1) rfl
    have t2 := kp.cell (i := 2) rfl
    have t3 := kp.cell (i := 3) rfl
    have t4 := kp.cell (i := 4) rfl
    have xA0 := kA.cell (i := 0) rfl
    have xA1 := kA.cell (i := 1) rfl
    have xA2 := kA.cell (i := 2) rfl
    have fxA0 := kA.frozen 0
    have fxA1 := kA.frozen 1
    have fxA2 := kA.frozen 2
    have xB0 := kB.cell (i := 0) rfl
    have xB1 := kB.cell (i := 1) rfl
    have xB2 := kB.cell (i := 2) rfl
    have fxB0 := kB.frozen 0
    have fxB1 := kB.frozen 1
    have fxB2 := kB.frozen 2
    have xC0 := kC.cell (i := 0) rfl
    have xC1 := kC.cell (i := 1) rfl
    have xC2 := kC.cell (i := 2) rfl
    have fxC0 := kC.frozen 0
    have fxC1 := kC.frozen 1
    have fxC2 := kC.frozen 2
    have xD0 := kD.cell (i := 0) rfl
    have xD1 := kD.cell (i := 1) rfl
    have xD2 := kD.cell (i := 2) rfl
    have fxD0 := kD.frozen 0
    have fxD1 := kD.frozen 1
    have fxD2 := kD.frozen 2
    clear hb
    obtain ⟨V12, hW⟩ : ∃ V12, put3 V11 bkA (.int .i64 pw) (.int .i64 ph) (.slice srF1a n srF1c) = V12 := ⟨_, rfl⟩
    have hg : V11.grownBy V12 (some bkA) := hW ▸ put3_grown _ _ _ _ _
    have kA' := put3_blk kA (.int .i64 pw) (.int .i64 ph) (.slice srF1a n srF1c)
    rw [hW] at kA'
    have rF1' := put3_row rF1 (kA.not_row (by decide) rF1) (.int .i64 pw) (.int .i64 ph) (.slice srF1a n srF1c)
    rw [hW] at rF1'
    have ka' := ka.kept hg (by simp <;> omega)
    have kp' := kp.kept hg (by simp <;> omega)
    have kB' := kB.kept hg (by simp <;> omega)
    have kC' := kC.kept hg (by simp <;> omega)
    have kD' := kD.kept hg (by simp <;> omega)
    have m0' := ka'.cell (i := 0) rfl
    have m1' := ka'.cell (i := 1) rfl
    have m2' := ka'.cell (i := 2) rfl
    have t0' := kp'.cell (i := 0) rfl
    have t1' := kp'.cell (i := 1) rfl
    have t2' := kp'.cell (i := 2) rfl
    have t3' := kp'.cell (i := 3) rfl
    have t4' := kp'.cell (i := 4) rfl
    have xA0' := kA'.cell (i := 0) rfl
    have xA1' := kA'.cell (i := 1) rfl
    have xA2' := kA'.cell (i := 2) rfl
    have fxA0' := kA'.frozen 0
    have fxA1' := kA'.frozen 1
    have fxA2' := kA'.frozen 2
    have xB0' := kB'.cell (i := 0) rfl
    have xB1' := kB'.cell (i := 1) rfl
    have xB2' := kB'.cell (i := 2) rfl
    have fxB0' := kB'.frozen 0
    have fxB1' := kB'.frozen 1
    have fxB2' := kB'.frozen 2
    have xC0' := kC'.cell (i := 0) rfl
    have xC1' := kC'.cell (i := 1) rfl
    have xC2' := kC'.cell (i := 2) rfl
    have fxC0' := kC'.frozen 0
    have fxC1' := kC'.frozen 1
    have fxC2' := kC'.frozen 2
    have xD0' := kD'.cell (i := 0) rfl
    have xD1' := kD'.cell (i := 1) rfl
    have xD2' := kD'.cell (i := 2) rfl
    have fxD0' := kD'.frozen 0
    have fxD1' := kD'.frozen 1
    have fxD2' := kD'.frozen 2
    go_wp2_with fail
    clear hW
    clear m0 m1 m2 t0 t1 t2 t3 t4 xA0 xA1 xA2 fxA0 fxA1 fxA2 xB0 xB1 xB2 fxB0 fxB1 fxB2 xC0 xC1 xC2 fxC0 fxC1 fxC2 xD0 xD1 xD2 fxD0 fxD1 fxD2
    clear m0' m1' m2' t0' t1' t2' t3' t4' xA0' xA1' xA2' fxA0' fxA1' fxA2' xB0' xB1' xB2' fxB0' fxB1' fxB2' xC0' xC1' xC2' fxC0' fxC1' fxC2' xD0' xD1' xD2' fxD0' fxD1' fxD2'
    replace ka := ka'
    clear ka'
    replace kp := kp'
    clear kp'
    replace kA := kA'
    clear kA'
    replace kB := kB'
    clear kB'
    replace kC := kC'
    clear kC'
    replace kD := kD'
    clear kD'
    have m0 := ka.cell (i := 0) rfl
    have m1 := ka.cell (i := 1) rfl
    have m2 := ka.cell (i := 2) rfl
    have t0 := kp.cell (i := 0) rfl
    have t1 := kp.cell (i := 1) rfl
    have t2 := kp.cell (i := 2) rfl
    have t3 := kp.cell (i := 3) rfl
    have t4 := kp.cell (i := 4) rfl
    have xA0 := kA.cell (i := 0) rfl
    have xA1 := kA.cell (i := 1) rfl
    have xA2 := kA.cell (i := 2) rfl
    have fxA0 := kA.frozen 0
    have fxA1 := kA.frozen 1
    have fxA2 := kA.frozen 2
    have xB0 := kB.cell (i := 0) rfl
    have xB1 := kB.cell (i := 1) rfl
    have xB2 := kB.cell (i := 2) rfl
    have fxB0 := kB.frozen 0
    have fxB1 := kB.frozen 1
    have fxB2 := kB.frozen 2
    have xC0 := kC.cell (i := 0) rfl
    have xC1 := kC.cell (i := 1) rfl
    have xC2 := kC.cell (i := 2) rfl
    have fxC0 := kC.frozen 0
    have fxC1 := kC.frozen 1
    have fxC2 := kC.frozen 2
    have xD0 := kD.cell (i := 0) rfl
    have xD1 := kD.cell (i := 1) rfl
    have xD2 := kD.cell (i := 2) rfl
    have fxD0 := kD.frozen 0
    have fxD1 := kD.frozen 1
    have fxD2 := kD.frozen 2
    replace rF1 := rF1'
    clear rF1'
    replace hB := hB.trans (below_of_grown hg hB.size (by intro k e; cases e; omega))
    clear hg
    have hcall := Flip_any pw ph srF1a srF1c n F1 hlF1 _ (by omega) (row_rd' hlF1.out rF1)
    rw [hSF2.out] at hcall
    refine hcall.mono ?_
    clear hcall
    rintro e V13 ⟨⟨v, hev, sl, hvl, hrow⟩, hb⟩
    have rF2 : V13.ownsRow w.heap.size 3 1 sl n ((xs).map (Value.int .i64)) := row_base (row_len (k := (xs).length) hlxs.out hrow) hB.size
    obtain ⟨srF2a, srF2c, rfl⟩ := row_slice rF2
    have he : e = .returned (.tuple #[.agg #[.int .i64 pw, .int .i64 ph, .slice srF2a n srF2c], .int .i64 0]) := by rw [hev, hvl]
    subst he
    clear hrow hev hvl
    clear m0 m1 m2 t0 t1 t2 t3 t4 xA0 xA1 xA2 fxA0 fxA1 fxA2 xB0 xB1 xB2 fxB0 fxB1 fxB2 xC0 xC1 xC2 fxC0 fxC1 fxC2 xD0 xD1 xD2 fxD0 fxD1 fxD2
    replace ka := ka.below hb ka.lt
    replace kp := kp.below hb kp.lt
    replace kA := kA.below hb kA.lt
    replace kB := kB.below hb kB.lt
    replace kC := kC.below hb kC.lt
    replace kD := kD.below hb kD.lt
    replace rF1 := row_below rF1 hb
    replace hB := hB.trans (hb.mono hB.size)
    have m0 := ka.cell (i := 0) rfl
    have m1 := ka.cell (i := 1) rfl
    have m2 := ka.cell (i := 2) rfl
    have t0 := kp.cell (i := 0) rfl
    have t1 := kp.cell (i := 1) rfl
    have t2 := kp.cell (i := 2) rfl
    have t3 := kp.cell (i := 3) rfl
    have t4 := kp.cell (i := 4) rfl
    have xA0 := kA.cell (i := 0) rfl
    have xA1 := kA.cell (i := 1) rfl
    have xA2 := kA.cell (i := 2) rfl
    have fxA0 := kA.frozen 0
    have fxA1 := kA.frozen 1
    have fxA2 := kA.frozen 2
    have xB0 := kB.cell (i := 0) rfl
    have xB1 := kB.cell (i := 1) rfl
    have xB2 := kB.cell (i := 2) rfl
    have fxB0 := kB.frozen 0
    have fxB1 := kB.frozen 1
    have fxB2 := kB.frozen 2
    have xC0 := kC.cell (i := 0) rfl
    have xC1 := kC.cell (i := 1) rfl
    have xC2 := kC.cell (i := 2) rfl
    have fxC0 := kC.frozen 0
    have fxC1 := kC.frozen 1
    have fxC2 := kC.frozen 2
    have xD0 := kD.cell (i := 0) rfl
    have xD1 := kD.cell (i := 1) rfl
    have xD2 := kD.cell (i := 2) rfl
    have fxD0 := kD.frozen 0
    have fxD1 := kD.frozen 1
    have fxD2 := kD.frozen 2
    clear hb
    obtain ⟨V14, hW⟩ : ∃ V14, put3 V13 bkB (.int .i64 pw) (.int .i64 ph) (.slice srF2a n srF2c) = V14 := ⟨_, rfl⟩
    have hg : V13.grownBy V14 (some bkB) := hW ▸ put3_grown _ _ _ _ _
    have kB' := put3_blk kB (.int .i64 pw) (.int .i64 ph) (.slice srF2a n srF2c)
    rw [hW] at kB'
    have rF1' := put3_row rF1 (kB.not_row (by decide) rF1) (.int .i64 pw) (.int .i64 ph) (.slice srF2a n srF2c)
    rw [hW] at rF1'
    have rF2' := put3_row rF2 (kB.not_row (by decide) rF2) (.int .i64 pw) (.int .i64 ph) (.slice srF2a n srF2c)
    rw [hW] at rF2'
    have ka' := ka.kept hg (by simp <;> omega)
    have kp' := kp.kept hg (by simp <;> omega)
    have kA' := kA.kept hg (by simp <;> omega)
    have kC' := kC.kept hg (by simp <;> omega)
    have kD' := kD.kept hg (by simp <;> omega)
    have m0' := ka'.cell (i := 0) rfl
    have m1' := ka'.cell (i := 1) rfl
    have m2' := ka'.cell (i := 2) rfl
    have t0' := kp'.cell (i := 0) rfl
    have t1' := kp'.cell (i := 1) rfl
    have t2' := kp'.cell (i := 2) rfl
    have t3' := kp'.cell (i := 3) rfl
    have t4' := kp'.cell (i := 4) rfl
    have xA0' := kA'.cell (i := 0) rfl
    have xA1' := kA'.cell (i := 1) rfl
    have xA2' := kA'.cell (i := 2) rfl
    have fxA0' := kA'.frozen 0
    have fxA1' := kA'.frozen 1
    have fxA2' := kA'.frozen 2
    have xB0' := kB'.cell (i := 0) rfl
    have xB1' := kB'.cell (i := 1) rfl
    have xB2' := kB'.cell (i := 2) rfl
    have fxB0' := kB'.frozen 0
    have fxB1' := kB'.frozen 1
    have fxB2' := kB'.frozen 2
    have xC0' := kC'.cell (i := 0) rfl
    have xC1' := kC'.cell (i := 1) rfl
    have xC2' := kC'.cell (i := 2) rfl
    have fxC0' := kC'.frozen 0
    have fxC1' := kC'.frozen 1
    have fxC2' := kC'.frozen 2
    have xD0' := kD'.cell (i := 0) rfl
    have xD1' := kD'.cell (i := 1) rfl
    have xD2' := kD'.cell (i := 2) rfl
    have fxD0' := kD'.frozen 0
    have fxD1' := kD'.frozen 1
    have fxD2' := kD'.frozen 2
    go_wp2_with fail
    clear hW
    clear m0 m1 m2 t0 t1 t2 t3 t4 xA0 xA1 xA2 fxA0 fxA1 fxA2 xB0 xB1 xB2 fxB0 fxB1 fxB2 xC0 xC1 xC2 fxC0 fxC1 fxC2 xD0 xD1 xD2 fxD0 fxD1 fxD2
    clear m0' m1' m2' t0' t1' t2' t3' t4' xA0' xA1' xA2' fxA0' fxA1' fxA2' xB0' xB1' xB2' fxB0' fxB1' fxB2' xC0' xC1' xC2' fxC0' fxC1' fxC2' xD0' xD1' xD2' fxD0' fxD1' fxD2'
    replace ka := ka'
    clear ka'
    replace kp := kp'
    clear kp'
    replace kA := kA'
    clear kA'
    replace kB := kB'
    clear kB'
    replace kC := kC'
    clear kC'
    replace kD := kD'
    clear kD'
    have m0 := ka.cell (i := 0) rfl
    have m1 := ka.cell (i := 1) rfl
    have m2 := ka.cell (i := 2) rfl
    have t0 := kp.cell (i := 0) rfl
    have t1 := kp.cell (i := 1) rfl
    have t2 := kp.cell (i := 2) rfl
    have t3 := kp.cell (i := 3) rfl
    have t4 := kp.cell (i := 4) rfl
    have xA0 := kA.cell (i := 0) rfl
    have xA1 := kA.cell (i := 1) rfl
    have xA2 := kA.cell (i := 2) rfl
    have fxA0 := kA.frozen 0
    have fxA1 := kA.frozen 1
    have fxA2 := kA.frozen 2
    have xB0 := kB.cell (i := 0) rfl
    have xB1 := kB.cell (i := 1) rfl
    have xB2 := kB.cell (i := 2) rfl
    have fxB0 := kB.frozen 0
    have fxB1 := kB.frozen 1
    have fxB2 := kB.frozen 2
    have xC0 := kC.cell (i := 0) rfl
    have xC1 := kC.cell (i := 1) rfl
    have xC2 := kC.cell (i := 2) rfl
    have fxC0 := kC.frozen 0
    have fxC1 := kC.frozen 1
    have fxC2 := kC.frozen 2
    have xD0 := kD.cell (i := 0) rfl
    have xD1 := kD.cell (i := 1) rfl
    have xD2 := kD.cell (i := 2) rfl
    have fxD0 := kD.frozen 0
    have fxD1 := kD.frozen 1
    have fxD2 := kD.frozen 2
    replace rF1 := rF1'
    clear rF1'
    replace rF2 := rF2'
    clear rF2'
    replace hB := hB.trans (below_of_grown hg hB.size (by intro k e; cases e; omega))
    clear hg
    have hcall := Turn_any pw ph srF1a srF1c n F1 hlF1 _ (by omega) (row_rd' hlF1.out rF1)
    rw [hSG1.out] at hcall
    refine hcall.mono ?_
    clear hcall
    rintro e V15 ⟨⟨v, hev, sl, hvl, hrow⟩, hb⟩
    have rG1 : V15.ownsRow w.heap.size 3 1 sl n ((G1).map (Value.int .i64)) := row_base (row_len (k := (G1).length) hlG1.out hrow) hB.size
    obtain ⟨srG1a, srG1c, rfl⟩ := row_slice rG1
    have he : e = .returned (.tuple #[.agg #[.int .i64 ph, .int .i64 pw, .slice srG1a n srG1c], .int .i64 0]) := by rw [hev, hvl]
    subst he
    clear hrow hev hvl
    clear m0 m1 m2 t0 t1 t2 t3 t4 xA0 xA1 xA2 fxA0 fxA1 fxA2 xB0 xB1 xB2 fxB0 fxB1 fxB2 xC0 xC1 xC2 fxC0 fxC1 fxC2 xD0 xD1 xD2 fxD0 fxD1 fxD2
    replace ka := ka.below hb ka.lt
    replace kp := kp.below hb kp.lt
    replace kA := kA.below hb kA.lt
    replace kB := kB.below hb kB.lt
    replace kC := kC.below hb kC.lt
    replace kD := kD.below hb kD.lt
    replace rF1 := row_below rF1 hb
    replace rF2 := row_below rF2 hb
    replace hB := hB.trans (hb.mono hB.size)
    have m0 := ka.cell (i := 0) rfl
    have m1 := ka.cell (i := 1) rfl
    have m2 := ka.cell (i := 2) rfl
    have t0 := kp.cell (i := 0) rfl
    have t1 := kp.cell (i := 1) rfl
    have t2 := kp.cell (i := 2) rfl
    have t3 := kp.cell (i := 3) rfl
    have t4 := kp.cell (i := 4) rfl
    have xA0 := kA.cell (i := 0) rfl
    have xA1 := kA.cell (i := 1) rfl
    have xA2 := kA.cell (i := 2) rfl
    have fxA0 := kA.frozen 0
    have fxA1 := kA.frozen 1
    have fxA2 := kA.frozen 2
    have xB0 := kB.cell (i := 0) rfl
    have xB1 := kB.cell (i := 1) rfl
    have xB2 := kB.cell (i := 2) rfl
    have fxB0 := kB.frozen 0
    have fxB1 := kB.frozen 1
    have fxB2 := kB.frozen 2
    have xC0 := kC.cell (i := 0) rfl
    have xC1 := kC.cell (i := 1) rfl
    have xC2 := kC.cell (i := 2) rfl
    have fxC0 := kC.frozen 0
    have fxC1 := kC.frozen 1
    have fxC2 := kC.frozen 2
    have xD0 := kD.cell (i := 0) rfl
    have xD1 := kD.cell (i := 1) rfl
    have xD2 := kD.cell (i := 2) rfl
    have fxD0 := kD.frozen 0
    have fxD1 := kD.frozen 1
    have fxD2 := kD.frozen 2
    clear hb
    obtain ⟨V16, hW⟩ : ∃ V16, put3 V15 bkC (.int .i64 ph) (.int .i64 pw) (.slice srG1a n srG1c) = V16 := ⟨_, rfl⟩
    have hg : V15.grownBy V16 (some bkC) := hW ▸ put3_grown _ _ _ _ _
    have kC' := put3_blk kC (.int .i64 ph) (.int .i64 pw) (.slice srG1a n srG1c)
    rw [hW] at kC'
    have rF1' := put3_row rF1 (kC.not_row (by decide) rF1) (.int .i64 ph) (.int .i64 pw) (.slice srG1a n srG1c)
    rw [hW] at rF1'
    have rF2' := put3_row rF2 (kC.not_row (by decide) rF2) (.int .i64 ph) (.int .i64 pw) (.slice srG1a n srG1c)
    rw [hW] at rF2'
    have rG1' := put3_row rG1 (kC.not_row (by decide) rG1) (.int .i64 ph) (.int .i64 pw) (.slice srG1a n srG1c)
    rw [hW] at rG1'
    have ka' := ka.kept hg (by simp <;> omega)
    have kp' := kp.kept hg (by simp <;> omega)
    have kA' := kA.kept hg (by simp <;> omega)
    have kB' := kB.kept hg (by simp <;> omega)
    have kD' := kD.kept hg (by simp <;> omega)
    have m0' := ka'.cell (i := 0) rfl
    have m1' := ka'.cell (i := 1) rfl
    have m2' := ka'.cell (i := 2) rfl
    have t0' := kp'.cell (i := 0) rfl
    have t1' := kp'.cell (i := 1) rfl
    have t2' := kp'.cell (i := 2) rfl
    have t3' := kp'.cell (i := 3) rfl
    have t4' := kp'.cell (i := 4) rfl
    have xA0' := kA'.cell (i := 0) rfl
    have xA1' := kA'.cell (i := 1) rfl
    have xA2' := kA'.cell (i := 2) rfl
    have fxA0' := kA'.frozen 0
    have fxA1' := kA'.frozen 1
    have fxA2' := kA'.frozen 2
    have xB0' := kB'.cell (i := 0) rfl
    have xB1' := kB'.cell (i := 1) rfl
    have xB2' := kB'.cell (i := 2) rfl
    have fxB0' := kB'.frozen 0
    have fxB1' := kB'.frozen 1
    have fxB2' := kB'.frozen 2
    have xC0' := kC'.cell (i := 0) rfl
    have xC1' := kC'.cell (i := 1) rfl
    have xC2' := kC'.cell (i := 2) rfl
    have fxC0' := kC'.frozen 0
    have fxC1' := kC'.frozen 1
    have fxC2' := kC'.frozen 2
    have xD0' := kD'.cell (i := 0) rfl
    have xD1' := kD'.cell (i := 1) rfl
    have xD2' := kD'.cell (i := 2) rfl
    have fxD0' := kD'.frozen 0
    have fxD1' := kD'.frozen 1
    have fxD2' := kD'.frozen 2
    go_wp2_with fail
    clear hW
    clear m0 m1 m2 t0 t1 t2 t3 t4 xA0 xA1 xA2 fxA0 fxA1 fxA2 xB0 xB1 xB2 fxB0 fxB1 fxB2 xC0 xC1 xC2 fxC0 fxC1 fxC2 xD0 xD1 xD2 fxD0 fxD1 fxD2
    clear m0' m1' m2' t0' t1' t2' t3' t4' xA0' xA1' xA2' fxA0' fxA1' fxA2' xB0' xB1' xB2' fxB0' fxB1' fxB2' xC0' xC1' xC2' fxC0' fxC1' fxC2' xD0' xD1' xD2' fxD0' fxD1' fxD2'
    replace ka := ka'
    clear ka'
    replace kp := kp'
    clear kp'
    replace kA := kA'
    clear kA'
    replace kB := kB'
    clear kB'
    replace kC := kC'
    clear kC'
    replace kD := kD'
    clear kD'
    have m0 := ka.cell (i := 0) rfl
    have m1 := ka.cell (i := 1) rfl
    have m2 := ka.cell (i := 2) rfl
    have t0 := kp.cell (i := 0) rfl
    have t1 := kp.cell (i := 1) rfl
    have t2 := kp.cell (i := 2) rfl
    have t3 := kp.cell (i := 3) rfl
    have t4 := kp.cell (i := 4) rfl
    have xA0 := kA.cell (i := 0) rfl
    have xA1 := kA.cell (i := 1) rfl
    have xA2 := kA.cell (i := 2) rfl
    have fxA0 := kA.frozen 0
    have fxA1 := kA.frozen 1
    have fxA2 := kA.frozen 2
    have xB0 := kB.cell (i := 0) rfl
    have xB1 := kB.cell (i := 1) rfl
    have xB2 := kB.cell (i := 2) rfl
    have fxB0 := kB.frozen 0
    have fxB1 := kB.frozen 1
    have fxB2 := kB.frozen 2
    have xC0 := kC.cell (i := 0) rfl
    have xC1 := kC.cell (i := 1) rfl
    have xC2 := kC.cell (i := 2) rfl
    have fxC0 := kC.frozen 0
    have fxC1 := kC.frozen 1
    have fxC2 := kC.frozen 2
    have xD0 := kD.cell (i := 0) rfl
    have xD1 := kD.cell (i := 1) rfl
    have xD2 := kD.cell (i := 2) rfl
    have fxD0 := kD.frozen 0
    have fxD1 := kD.frozen 1
    have fxD2 := kD.frozen 2
    replace rF1 := rF1'
    clear rF1'
    replace rF2 := rF2'
    clear rF2'
    replace rG1 := rG1'
    clear rG1'
    replace hB := hB.trans (below_of_grown hg hB.size (by intro k e; cases e; omega))
    clear hg
    clear rF1
    have hcall := Flip_any ph pw srG1a srG1c n G1 hlG1 _ (by omega) (row_rd' hlG1.out rG1)
    rw [hSH1.out] at hcall
    refine hcall.mono ?_
    clear hcall
    rintro e V17 ⟨⟨v, hev, sl, hvl, hrow⟩, hb⟩
    have rH1 : V17.ownsRow w.heap.size 3 1 sl n ((H1).map (Value.int .i64)) := row_base (row_len (k := (H1).length) hlH1.out hrow) hB.size
    obtain ⟨srH1a, srH1c, rfl⟩ := row_slice rH1
    have he : e = .returned (.tuple #[.agg #[.int .i64 ph, .int .i64 pw, .slice srH1a n srH1c], .int .i64 0]) := by rw [hev, hvl]
    subst he
    clear hrow hev hvl
    clear m0 m1 m2 t0 t1 t2 t3 t4 xA0 xA1 xA2 fxA0 fxA1 fxA2 xB0 xB1 xB2 fxB0 fxB1 fxB2 xC0 xC1 xC2 fxC0 fxC1 fxC2 xD0 xD1 xD2 fxD0 fxD1 fxD2
    replace ka := ka.below hb ka.lt
    replace kp := kp.below hb kp.lt
    replace kA := kA.below hb kA.lt
    replace kB := kB.below hb kB.lt
    replace kC := kC.below hb kC.lt
    replace kD := kD.below hb kD.lt
    replace rF2 := row_below rF2 hb
    replace rG1 := row_below rG1 hb
    replace hB := hB.trans (hb.mono hB.size)
    have m0 := ka.cell (i := 0) rfl
    have m1 := ka.cell (i := 1) rfl
    have m2 := ka.cell (i := 2) rfl
    have t0 := kp.cell (i := 0) rfl
    have t1 := kp.cell (i := 1) rfl
    have t2 := kp.cell (i := 2) rfl
    have t3 := kp.cell (i := 3) rfl
    have t4 := kp.cell (i := 4) rfl
    have xA0 := kA.cell (i := 0) rfl
    have xA1 := kA.cell (i := 1) rfl
    have xA2 := kA.cell (i := 2) rfl
    have fxA0 := kA.frozen 0
    have fxA1 := kA.frozen 1
    have fxA2 := kA.frozen 2
    have xB0 := kB.cell (i := 0) rfl
    have xB1 := kB.cell (i := 1) rfl
    have xB2 := kB.cell (i := 2) rfl
    have fxB0 := kB.frozen 0
    have fxB1 := kB.frozen 1
    have fxB2 := kB.frozen 2
    have xC0 := kC.cell (i := 0) rfl
    have xC1 := kC.cell (i := 1) rfl
    have xC2 := kC.cell (i := 2) rfl
    have fxC0 := kC.frozen 0
    have fxC1 := kC.frozen 1
    have fxC2 := kC.frozen 2
    have xD0 := kD.cell (i := 0) rfl
    have xD1 := kD.cell (i := 1) rfl
    have xD2 := kD.cell (i := 2) rfl
    have fxD0 := kD.frozen 0
    have fxD1 := kD.frozen 1
    have fxD2 := kD.frozen 2
    clear hb
    obtain ⟨V18, hW⟩ : ∃ V18, put3 V17 bkD (.int .i64 ph) (.int .i64 pw) (.slice srH1a n srH1c) = V18 := ⟨_, rfl⟩
    have hg : V17.grownBy V18 (some bkD) := hW ▸ put3_grown _ _ _ _ _
    have kD' := put3_blk kD (.int .i64 ph) (.int .i64 pw) (.slice srH1a n srH1c)
    rw [hW] at kD'
    have rF2' := put3_row rF2 (kD.not_row (by decide) rF2) (.int .i64 ph) (.int .i64 pw) (.slice srH1a n srH1c)
    rw [hW] at rF2'
    have rG1' := put3_row rG1 (kD.not_row (by decide) rG1) (.int .i64 ph) (.int .i64 pw) (.slice srH1a n srH1c)
    rw [hW] at rG1'
    have rH1' := put3_row rH1 (kD.not_row (by decide) rH1) (.int .i64 ph) (.int .i64 pw) (.slice srH1a n srH1c)
    rw [hW] at rH1'
    have ka' := ka.kept hg (by simp <;> omega)
    have kp' := kp.kept hg (by simp <;> omega)
    have kA' := kA.kept hg (by simp <;> omega)
    have kB' := kB.kept hg (by simp <;> omega)
    have kC' := kC.kept hg (by simp <;> omega)
    have m0' := ka'.cell (i := 0) rfl
    have m1' := ka'.cell (i := 1) rfl
    have m2' := ka'.cell (i := 2) rfl
    have t0' := kp'.cell (i := 0) rfl
    have t1' := kp'.cell (i := 1) rfl
    have t2' := kp'.cell (i := 2) rfl
    have t3' := kp'.cell (i := 3) rfl
    have t4' := kp'.cell (i := 4) rfl
    have xA0' := kA'.cell (i := 0) rfl
    have xA1' := kA'.cell (i := 1) rfl
    have xA2' := kA'.cell (i := 2) rfl
    have fxA0' := kA'.frozen 0
    have fxA1' := kA'.frozen 1
    have fxA2' := kA'.frozen 2
    have xB0' := kB'.cell (i := 0) rfl
    have xB1' := kB'.cell (i := 1) rfl
    have xB2' := kB'.cell (i := 2) rfl
    have fxB0' := kB'.frozen 0
    have fxB1' := kB'.frozen 1
    have fxB2' := kB'.frozen 2
    have xC0' := kC'.cell (i := 0) rfl
    have xC1' := kC'.cell (i := 1) rfl
    have xC2' := kC'.cell (i := 2) rfl
    have fxC0' := kC'.frozen 0
    have fxC1' := kC'.frozen 1
    have fxC2' := kC'.frozen 2
    have xD0' := kD'.cell (i := 0) rfl
    have xD1' := kD'.cell (i := 1) rfl
    have xD2' := kD'.cell (i := 2) rfl
    have fxD0' := kD'.frozen 0
    have fxD1' := kD'.frozen 1
    have fxD2' := kD'.frozen 2
    go_wp2_with fail
    clear hW
    clear m0 m1 m2 t0 t1 t2 t3 t4 xA0 xA1 xA2 fxA0 fxA1 fxA2 xB0 xB1 xB2 fxB0 fxB1 fxB2 xC0 xC1 xC2 fxC0 fxC1 fxC2 xD0 xD1 xD2 fxD0 fxD1 fxD2
    clear m0' m1' m2' t0' t1' t2' t3' t4' xA0' xA1' xA2' fxA0' fxA1' fxA2' xB0' xB1' xB2' fxB0' fxB1' fxB2' xC0' xC1' xC2' fxC0' fxC1' fxC2' xD0' xD1' xD2' fxD0' fxD1' fxD2'
    replace ka := ka'
    clear ka'
    replace kp := kp'
    clear kp'
    replace kA := kA'
    clear kA'
    replace kB := kB'
    clear kB'
    replace kC := kC'
    clear kC'
    replace kD := kD'
    clear kD'
    have m0 := ka.cell (i := 0) rfl
    have m1 := ka.cell (i := 1) rfl
    have m2 := ka.cell (i := 2) rfl
    have t0 := kp.cell (i := 0) rfl
    have t1 := kp.cell (i := 1) rfl
    have t2 := kp.cell (i := 2) rfl
    have t3 := kp.cell (i := 3) rfl
    have t4 := kp.cell (i := 4) rfl
    have xA0 := kA.cell (i := 0) rfl
    have xA1 := kA.cell (i := 1) rfl
    have xA2 := kA.cell (i := 2) rfl
    have fxA0 := kA.frozen 0
    have fxA1 := kA.frozen 1
    have fxA2 := kA.frozen 2
    have xB0 := kB.cell (i := 0) rfl
    have xB1 := kB.cell (i := 1) rfl
    have xB2 := kB.cell (i := 2) rfl
    have fxB0 := kB.frozen 0
    have fxB1 := kB.frozen 1
    have fxB2 := kB.frozen 2
    have xC0 := kC.cell (i := 0) rfl
    have xC1 := kC.cell (i := 1) rfl
    have xC2 := kC.cell (i := 2) rfl
    have fxC0 := kC.frozen 0
    have fxC1 := kC.frozen 1
    have fxC2 := kC.frozen 2
    have xD0 := kD.cell (i := 0) rfl
    have xD1 := kD.cell (i := 1) rfl
    have xD2 := kD.cell (i := 2) rfl
    have fxD0 := kD.frozen 0
    have fxD1 := kD.frozen 1
    have fxD2 := kD.frozen 2
    replace rF2 := rF2'
    clear rF2'
    replace rG1 := rG1'
    clear rG1'
    replace rH1 := rH1'
    clear rH1'
    replace hB := hB.trans (below_of_grown hg hB.size (by intro k e; cases e; omega))
    clear hg
    clear rG1
    clear kC xC0 xC1 xC2 fxC0 fxC1 fxC2
    have hcall := Turn_any ph pw srH1a srH1c n H1 hlH1 _ (by omega) (row_rd' hlH1.out rH1)
    rw [hSX1.out] at hcall
    refine hcall.mono ?_
    clear hcall
    rintro e V19 ⟨⟨v, hev, sl, hvl, hrow⟩, hb⟩
    have rX1 : V19.ownsRow w.heap.size 3 1 sl n ((xs).map (Value.int .i64)) := row_base (row_len (k := (xs).length) hlxs.out hrow) hB.size
    obtain ⟨srX1a, srX1c, rfl⟩ := row_slice rX1
    have he : e = .returned (.tuple #[.agg #[.int .i64 pw, .int .i64 ph, .slice srX1a n srX1c], .int .i64 0]) := by rw [hev, hvl]
    subst he
    clear hrow hev hvl
    clear m0 m1 m2 t0 t1 t2 t3 t4 xA0 xA1 xA2 fxA0 fxA1 fxA2 xB0 xB1 xB2 fxB0 fxB1 fxB2 xD0 xD1 xD2 fxD0 fxD1 fxD2
    replace ka := ka.below hb ka.lt
    replace kp := kp.below hb kp.lt
    replace kA := kA.below hb kA.lt
    replace kB := kB.below hb kB.lt
    replace kD := kD.below hb kD.lt
    replace rF2 := row_below rF2 hb
    replace rH1 := row_below rH1 hb
    replace hB := hB.trans (hb.mono hB.size)
    have m0 := ka.cell (i := 0) rfl
    have m1 := ka.cell (i := 1) rfl
    have m2 := ka.cell (i := 2) rfl
    have t0 := kp.cell (i := 0) rfl
    have t1 := kp.cell (i := 1) rfl
    have t2 := kp.cell (i := 2) rfl
    have t3 := kp.cell (i := 3) rfl
    have t4 := kp.cell (i := 4) rfl
    have xA0 := kA.cell (i := 0) rfl
    have xA1 := kA.cell (i := 1) rfl
    have xA2 := kA.cell (i := 2) rfl
    have fxA0 := kA.frozen 0
    have fxA1 := kA.frozen 1
    have fxA2 := kA.frozen 2
    have xB0 := kB.cell (i := 0) rfl
    have xB1 := kB.cell (i := 1) rfl
    have xB2 := kB.cell (i := 2) rfl
    have fxB0 := kB.frozen 0
    have fxB1 := kB.frozen 1
    have fxB2 := kB.frozen 2
    have xD0 := kD.cell (i := 0) rfl
    have xD1 := kD.cell (i := 1) rfl
    have xD2 := kD.cell (i := 2) rfl
    have fxD0 := kD.frozen 0
    have fxD1 := kD.frozen 1
    have fxD2 := kD.frozen 2
    clear hb
    obtain ⟨V20, hW⟩ : ∃ V20, V19.alloc (.cells #[.int .i64 pw, .int .i64 ph, .slice srX1a n srX1c] 24) = V20 := ⟨_, rfl⟩
    obtain ⟨bkE, hbx⟩ : ∃ bkE, V19.heap.size = bkE := ⟨_, rfl⟩
    have kE := Blk.new V19 24 #[.int .i64 pw, .int .i64 ph, .slice srX1a n srX1c]
    rw [hW, hbx] at kE
    have hb : Below V19.heap.size V19 V20 := alloc_below hW
    have ka' := ka.below hb ka.lt
    have lkakE := ka.lt
    rw [hbx] at lkakE
    have kp' := kp.below hb kp.lt
    have lkpkE := kp.lt
    rw [hbx] at lkpkE
    have kA' := kA.below hb kA.lt
    have lkAkE := kA.lt
    rw [hbx] at lkAkE
    have kB' := kB.below hb kB.lt
    have lkBkE := kB.lt
    rw [hbx] at lkBkE
    have kD' := kD.below hb kD.lt
    have lkDkE := kD.lt
    rw [hbx] at lkDkE
    have m0' := ka'.cell (i := 0) rfl
    have m1' := ka'.cell (i := 1) rfl
    have m2' := ka'.cell (i := 2) rfl
    have t0' := kp'.cell (i := 0) rfl
    have t1' := kp'.cell (i := 1) rfl
    have t2' := kp'.cell (i := 2) rfl
    have t3' := kp'.cell (i := 3) rfl
    have t4' := kp'.cell (i := 4) rfl
    have xA0' := kA'.cell (i := 0) rfl
    have xA1' := kA'.cell (i := 1) rfl
    have xA2' := kA'.cell (i := 2) rfl
    have fxA0' := kA'.frozen 0
    have fxA1' := kA'.frozen 1
    have fxA2' := kA'.frozen 2
    have xB0' := kB'.cell (i := 0) rfl
    have xB1' := kB'.cell (i := 1) rfl
    have xB2' := kB'.cell (i := 2) rfl
    have fxB0' := kB'.frozen 0
    have fxB1' := kB'.frozen 1
    have fxB2' := kB'.frozen 2
    have xD0' := kD'.cell (i := 0) rfl
    have xD1' := kD'.cell (i := 1) rfl
    have xD2' := kD'.cell (i := 2) rfl
    have fxD0' := kD'.frozen 0
    have fxD1' := kD'.frozen 1
    have fxD2' := kD'.frozen 2
    have xE0 := kE.cell (i := 0) rfl
    have xE1 := kE.cell (i := 1) rfl
    have xE2 := kE.cell (i := 2) rfl
    have fxE0 := kE.frozen 0
    have fxE1 := kE.frozen 1
    have fxE2 := kE.frozen 2
    go_wp2_with fail
    clear hW
    clear hbx
    clear m0 m1 m2 t0 t1 t2 t3 t4 xA0 xA1 xA2 fxA0 fxA1 fxA2 xB0 xB1 xB2 fxB0 fxB1 fxB2 xD0 xD1 xD2 fxD0 fxD1 fxD2
    clear m0' m1' m2' t0' t1' t2' t3' t4' xA0' xA1' xA2' fxA0' fxA1' fxA2' xB0' xB1' xB2' fxB0' fxB1' fxB2' xD0' xD1' xD2' fxD0' fxD1' fxD2'
    replace ka := ka'
    clear ka'
    replace kp := kp'
    clear kp'
    replace kA := kA'
    clear kA'
    replace kB := kB'
    clear kB'
    replace kD := kD'
    clear kD'
    have m0 := ka.cell (i := 0) rfl
    have m1 := ka.cell (i := 1) rfl
    have m2 := ka.cell (i := 2) rfl
    have t0 := kp.cell (i := 0) rfl
    have t1 := kp.cell (i := 1) rfl
    have t2 := kp.cell (i := 2) rfl
    have t3 := kp.cell (i := 3) rfl
    have t4 := kp.cell (i := 4) rfl
    have xA0 := kA.cell (i := 0) rfl
    have xA1 := kA.cell (i := 1) rfl
    have xA2 := kA.cell (i := 2) rfl
    have fxA0 := kA.frozen 0
    have fxA1 := kA.frozen 1
    have fxA2 := kA.frozen 2
    have xB0 := kB.cell (i := 0) rfl
    have xB1 := kB.cell (i := 1) rfl
    have xB2 := kB.cell (i := 2) rfl
    have fxB0 := kB.frozen 0
    have fxB1 := kB.frozen 1
    have fxB2 := kB.frozen 2
    have xD0 := kD.cell (i := 0) rfl
    have xD1 := kD.cell (i := 1) rfl
    have xD2 := kD.cell (i := 2) rfl
    have fxD0 := kD.frozen 0
    have fxD1 := kD.frozen 1
    have fxD2 := kD.frozen 2
    replace rF2 := row_below rF2 hb
    replace rH1 := row_below rH1 hb
    replace rX1 := row_below rX1 hb
    replace hB := hB.trans (hb.mono hB.size)
    clear hb
    clear rH1
    clear kD xD0 xD1 xD2 fxD0 fxD1 fxD2
    refine (Same_eq pw ph srF2a a srF2c c n xs hlxs _ (by omega) (row_rd' hlxs.out rF2) ((hr.below (Nat.le_refl _) hB).mono hB.size)).mono ?_
    rintro e V21 ⟨rfl, hb⟩
    clear m0 m1 m2 t0 t1 t2 t3 t4 xA0 xA1 xA2 fxA0 fxA1 fxA2 xB0 xB1 xB2 fxB0 fxB1 fxB2 xE0 xE1 xE2 fxE0 fxE1 fxE2
    replace ka := ka.below hb ka.lt
    replace kp := kp.below hb kp.lt
    replace kA := kA.below hb kA.lt
    replace kB := kB.below hb kB.lt
    replace kE := kE.below hb kE.lt
    replace rF2 := row_below rF2 hb
    replace rX1 := row_below rX1 hb
    replace hB := hB.trans (hb.mono hB.size)
    have m0 := ka.cell (i := 0) rfl
    have m1 := ka.cell (i := 1) rfl
    have m2 := ka.cell (i := 2) rfl
    have t0 := kp.cell (i := 0) rfl
    have t1 := kp.cell (i := 1) rfl
    have t2 := kp.cell (i := 2) rfl
    have t3 := kp.cell (i := 3) rfl
    have t4 := kp.cell (i := 4) rfl
    have xA0 := kA.cell (i := 0) rfl
    have xA1 := kA.cell (i := 1) rfl
    have xA2 := kA.cell (i := 2) rfl
    have fxA0 := kA.frozen 0
    have fxA1 := kA.frozen 1
    have fxA2 := kA.frozen 2
    have xB0 := kB.cell (i := 0) rfl
    have xB1 := kB.cell (i := 1) rfl
    have xB2 := kB.cell (i := 2) rfl
    have fxB0 := kB.frozen 0
    have fxB1 := kB.frozen 1
    have fxB2 := kB.frozen 2
    have xE0 := kE.cell (i := 0) rfl
    have xE1 := kE.cell (i := 1) rfl
    have xE2 := kE.cell (i := 2) rfl
    have fxE0 := kE.frozen 0
    have fxE1 := kE.frozen 1
    have fxE2 := kE.frozen 2
    clear hb
    clear rF2
    go_wp2_with fail
    refine (Same_eq pw ph srX1a a srX1c c n xs hlxs _ (by omega) (row_rd' hlxs.out rX1) ((hr.below (Nat.le_refl _) hB).mono hB.size)).mono ?_
    rintro e V22 ⟨rfl, hb⟩
    clear m0 m1 m2 t0 t1 t2 t3 t4 xA0 xA1 xA2 fxA0 fxA1 fxA2 xB0 xB1 xB2 fxB0 fxB1 fxB2 xE0 xE1 xE2 fxE0 fxE1 fxE2
    replace ka := ka.below hb ka.lt
    replace kp := kp.below hb kp.lt
    replace kA := kA.below hb kA.lt
    replace kB := kB.below hb kB.lt
    replace kE := kE.below hb kE.lt
    replace rX1 := row_below rX1 hb
    replace hB := hB.trans (hb.mono hB.size)
    have m0 := ka.cell (i := 0) rfl
    have m1 := ka.cell (i := 1) rfl
    have m2 := ka.cell (i := 2) rfl
    have t0 := kp.cell (i := 0) rfl
    have t1 := kp.cell (i := 1) rfl
    have t2 := kp.cell (i := 2) rfl
    have t3 := kp.cell (i := 3) rfl
    have t4 := kp.cell (i := 4) rfl
    have xA0 := kA.cell (i := 0) rfl
    have xA1 := kA.cell (i := 1) rfl
    have xA2 := kA.cell (i := 2) rfl
    have fxA0 := kA.frozen 0
    have fxA1 := kA.frozen 1
    have fxA2 := kA.frozen 2
    have xB0 := kB.cell (i := 0) rfl
    have xB1 := kB.cell (i := 1) rfl
    have xB2 := kB.cell (i := 2) rfl
    have fxB0 := kB.frozen 0
    have fxB1 := kB.frozen 1
    have fxB2 := kB.frozen 2
    have xE0 := kE.cell (i := 0) rfl
    have xE1 := kE.cell (i := 1) rfl
    have xE2 := kE.cell (i := 2) rfl
    have fxE0 := kE.frozen 0
    have fxE1 := kE.frozen 1
    have fxE2 := kE.frozen 2
    clear hb
    clear rX1
    clear kE xE0 xE1 xE2 fxE0 fxE1 fxE2
    go_wp2_with fail
    refine (ValidPoint_any p _).mono ?_
    rintro e V9 ⟨rfl, hb⟩
    rw [hpv.out]
    clear m0 m1 m2 t0 t1 t2 t3 t4 xA0 xA1 xA2 fxA0 fxA1 fxA2 xB0 xB1 xB2 fxB0 fxB1 fxB2
    replace ka := ka.below hb ka.lt
    replace kp := kp.below hb kp.lt
    replace kA := kA.below hb kA.lt
    replace kB := kB.below hb kB.lt
    replace hB := hB.trans (hb.mono hB.size)
    have m0 := ka.cell (i := 0) rfl
    have m1 := ka.cell (i := 1) rfl
    have m2 := ka.cell (i := 2) rfl
    have t0 := kp.cell (i := 0) rfl
    have t1 := kp.cell (i := 1) rfl
    have t2 := kp.cell (i := 2) rfl
    have t3 := kp.cell (i := 3) rfl
    have t4 := kp.cell (i := 4) rfl
    have xA0 := kA.cell (i := 0) rfl
    have xA1 := kA.cell (i := 1) rfl
    have xA2 := kA.cell (i := 2) rfl
    have fxA0 := kA.frozen 0
    have fxA1 := kA.frozen 1
    have fxA2 := kA.frozen 2
    have xB0 := kB.cell (i := 0) rfl
    have xB1 := kB.cell (i := 1) rfl
    have xB2 := kB.cell (i := 2) rfl
    have fxB0 := kB.frozen 0
    have fxB1 := kB.frozen 1
    have fxB2 := kB.frozen 2
    clear hb
    cases pv with
    | false =>
      go_wp2_with fail
      go_ret
      exact ⟨rfl, hB⟩
    | true =>
    obtain ⟨Y1, Z1, W1, B1, s1, s2, s3, s4, s5, l1, l2, l3, l4⟩ := hpt.out rfl
    have hSY1 := Lib.hid s1
    have hSZ1 := Lib.hid s2
    have hSW1 := Lib.hid s3
    have hSB1 := Lib.hid s4
    have hSW2 := Lib.hid s5
    have hlY1 := Lib.hid l1
    have hlZ1 := Lib.hid l2
    have hlW1 := Lib.hid l3
    have hlB1 := Lib.hid l4
    clear s1 s2 s3 s4 s5 l1 l2 l3 l4 hpt
    go_wp2_with fail
    have hcall := Point_any pw ph a c n xs hn p _ (by omega) ((hr.below (Nat.le_refl _) hB).mono hB.size)
    rw [hSY1.out] at hcall
    refine hcall.mono ?_
    clear hcall
    rintro e V23 ⟨⟨v, hev, sl, hvl, hrow⟩, hb⟩
    have rY1 : V23.ownsRow w.heap.size 3 1 sl n ((Y1).map (Value.int .i64)) := row_base (row_len (k := (Y1).length) hlY1.out hrow) hB.size
    obtain ⟨srY1a, srY1c, rfl⟩ := row_slice rY1
    have he : e = .returned (.tuple #[.agg #[.int .i64 pw, .int .i64 ph, .slice srY1a n srY1c], .int .i64 0]) := by rw [hev, hvl]
    subst he
    clear hrow hev hvl
    clear m0 m1 m2 t0 t1 t2 t3 t4 xA0 xA1 xA2 fxA0 fxA1 fxA2 xB0 xB1 xB2 fxB0 fxB1 fxB2
    replace ka := ka.below hb ka.lt
    replace kp := kp.below hb kp.lt
    replace kA := kA.below hb kA.lt
    replace kB := kB.below hb kB.lt
    replace hB := hB.trans (hb.mono hB.size)
    have m0 := ka.cell (i := 0) rfl
    have m1 := ka.cell (i := 1) rfl
    have m2 := ka.cell (i := 2) rfl
    have t0 := kp.cell (i := 0) rfl
    have t1 := kp.cell (i := 1) rfl
    have t2 := kp.cell (i := 2) rfl
    have t3 := kp.cell (i := 3) rfl
    have t4 := kp.cell (i := 4) rfl
    have xA0 := kA.cell (i := 0) rfl
    have xA1 := kA.cell (i := 1) rfl
    have xA2 := kA.cell (i := 2) rfl
    have fxA0 := kA.frozen 0
    have fxA1 := kA.frozen 1
    have fxA2 := kA.frozen 2
    have xB0 := kB.cell (i := 0) rfl
    have xB1 := kB.cell (i := 1) rfl
    have xB2 := kB.cell (i := 2) rfl
    have fxB0 := kB.frozen 0
    have fxB1 := kB.frozen 1
    have fxB2 := kB.frozen 2
    clear hb
    obtain ⟨V24, hW⟩ : ∃ V24, V23.alloc (.cells #[.int .i64 pw, .int .i64 ph, .slice srY1a n srY1c] 24) = V24 := ⟨_, rfl⟩
    obtain ⟨bkY, hbx⟩ : ∃ bkY, V23.heap.size = bkY := ⟨_, rfl⟩
    have kY := Blk.new V23 24 #[.int .i64 pw, .int .i64 ph, .slice srY1a n srY1c]
    rw [hW, hbx] at kY
    have hb : Below V23.heap.size V23 V24 := alloc_below hW
    have ka' := ka.below hb ka.lt
    have lkakY := ka.lt
    rw [hbx] at lkakY
    have kp' := kp.below hb kp.lt
    have lkpkY := kp.lt
    rw [hbx] at lkpkY
    have kA' := kA.below hb kA.lt
    have lkAkY := kA.lt
    rw [hbx] at lkAkY
    have kB' := kB.below hb kB.lt
    have lkBkY := kB.lt
    rw [hbx] at lkBkY
    have m0' := ka'.cell (i := 0) rfl
    have m1' := ka'.cell (i := 1) rfl
    have m2' := ka'.cell (i := 2) rfl
    have t0' := kp'.cell (i := 0) rfl
    have t1' := kp'.cell (i := 1) rfl
    have t2' := kp'.cell (i := 2) rfl
    have t3' := kp'.cell (i := 3) rfl
    have t4' := kp'.cell (i := 4) rfl
    have xA0' := kA'.cell (i := 0) rfl
    have xA1' := kA'.cell (i := 1) rfl
    have xA2' := kA'.cell (i := 2) rfl
    have fxA0' := kA'.frozen 0
    have fxA1' := kA'.frozen 1
    have fxA2' := kA'.frozen 2
    have xB0' := kB'.cell (i := 0) rfl
    have xB1' := kB'.cell (i := 1) rfl
    have xB2' := kB'.cell (i := 2) rfl
    have fxB0' := kB'.frozen 0
    have fxB1' := kB'.frozen 1
    have fxB2' := kB'.frozen 2
    have xY0 := kY.cell (i := 0) rfl
    have xY1 := kY.cell (i := 1) rfl
    have xY2 := kY.cell (i := 2) rfl
    have fxY0 := kY.frozen 0
    have fxY1 := kY.frozen 1
    have fxY2 := kY.frozen 2
    go_wp2_with fail
    clear hW
    clear hbx
    clear m0 m1 m2 t0 t1 t2 t3 t4 xA0 xA1 xA2 fxA0 fxA1 fxA2 xB0 xB1 xB2 fxB0 fxB1 fxB2
    clear m0' m1' m2' t0' t1' t2' t3' t4' xA0' xA1' xA2' fxA0' fxA1' fxA2' xB0' xB1' xB2' fxB0' fxB1' fxB2'
    replace ka := ka'
    clear ka'
    replace kp := kp'
    clear kp'
    replace kA := kA'
    clear kA'
    replace kB := kB'
    clear kB'
    have m0 := ka.cell (i := 0) rfl
    have m1 := ka.cell (i := 1) rfl
    have m2 := ka.cell (i := 2) rfl
    have t0 := kp.cell (i := 0) rfl
    have t1 := kp.cell (i := 1) rfl
    have t2 := kp.cell (i := 2) rfl
    have t3 := kp.cell (i := 3) rfl
    have t4 := kp.cell (i := 4) rfl
    have xA0 := kA.cell (i := 0) rfl
    have xA1 := kA.cell (i := 1) rfl
    have xA2 := kA.cell (i := 2) rfl
    have fxA0 := kA.frozen 0
    have fxA1 := kA.frozen 1
    have fxA2 := kA.frozen 2
    have xB0 := kB.cell (i := 0) rfl
    have xB1 := kB.cell (i := 1) rfl
    have xB2 := kB.cell (i := 2) rfl
    have fxB0 := kB.frozen 0
    have fxB1 := kB.frozen 1
    have fxB2 := kB.frozen 2
    replace rY1 := row_below rY1 hb
    replace hB := hB.trans (hb.mono hB.size)
    clear hb
    have hcall := Turn_any pw ph srY1a srY1c n Y1 hlY1 _ (by omega) (row_rd' hlY1.out rY1)
    rw [hSZ1.out] at hcall
    refine hcall.mono ?_
    clear hcall
    rintro e V25 ⟨⟨v, hev, sl, hvl, hrow⟩, hb⟩
    have rZ1 : V25.ownsRow w.heap.size 3 1 sl n ((Z1).map (Value.int .i64)) := row_base (row_len (k := (Z1).length) hlZ1.out hrow) hB.size
    obtain ⟨srZ1a, srZ1c, rfl⟩ := row_slice rZ1
    have he : e = .returned (.tuple #[.agg #[.int .i64 ph, .int .i64 pw, .slice srZ1a n srZ1c], .int .i64 0]) := by rw [hev, hvl]
    subst he
    clear hrow hev hvl
    clear m0 m1 m2 t0 t1 t2 t3 t4 xA0 xA1 xA2 fxA0 fxA1 fxA2 xB0 xB1 xB2 fxB0 fxB1 fxB2 xY0 xY1 xY2 fxY0 fxY1 fxY2
    replace ka := ka.below hb ka.lt
    replace kp := kp.below hb kp.lt
    replace kA := kA.below hb kA.lt
    replace kB := kB.below hb kB.lt
    replace kY := kY.below hb kY.lt
    replace rY1 := row_below rY1 hb
    replace hB := hB.trans (hb.mono hB.size)
    have m0 := ka.cell (i := 0) rfl
    have m1 := ka.cell (i := 1) rfl
    have m2 := ka.cell (i := 2) rfl
    have t0 := kp.cell (i := 0) rfl
    have t1 := kp.cell (i := 1) rfl
    have t2 := kp.cell (i := 2) rfl
    have t3 := kp.cell (i := 3) rfl
    have t4 := kp.cell (i := 4) rfl
    have xA0 := kA.cell (i := 0) rfl
    have xA1 := kA.cell (i := 1) rfl
    have xA2 := kA.cell (i := 2) rfl
    have fxA0 := kA.frozen 0
    have fxA1 := kA.frozen 1
    have fxA2 := kA.frozen 2
    have xB0 := kB.cell (i := 0) rfl
    have xB1 := kB.cell (i := 1) rfl
    have xB2 := kB.cell (i := 2) rfl
    have fxB0 := kB.frozen 0
    have fxB1 := kB.frozen 1
    have fxB2 := kB.frozen 2
    have xY0 := kY.cell (i := 0) rfl
    have xY1 := kY.cell (i := 1) rfl
    have xY2 := kY.cell (i := 2) rfl
    have fxY0 := kY.frozen 0
    have fxY1 := kY.frozen 1
    have fxY2 := kY.frozen 2
    clear hb
    obtain ⟨V26, hW⟩ : ∃ V26, V25.alloc (.cells #[.int .i64 ph, .int .i64 pw, .slice srZ1a n srZ1c] 24) = V26 := ⟨_, rfl⟩
    obtain ⟨bkZ, hbx⟩ : ∃ bkZ, V25.heap.size = bkZ := ⟨_, rfl⟩
    have kZ := Blk.new V25 24 #[.int .i64 ph, .int .i64 pw, .slice srZ1a n srZ1c]
    rw [hW, hbx] at kZ
    have hb : Below V25.heap.size V25 V26 := alloc_below hW
    have ka' := ka.below hb ka.lt
    have lkakZ := ka.lt
    rw [hbx] at lkakZ
    have kp' := kp.below hb kp.lt
    have lkpkZ := kp.lt
    rw [hbx] at lkpkZ
    have kA' := kA.below hb kA.lt
    have lkAkZ := kA.lt
    rw [hbx] at lkAkZ
    have kB' := kB.below hb kB.lt
    have lkBkZ := kB.lt
    rw [hbx] at lkBkZ
    have kY' := kY.below hb kY.lt
    have lkYkZ := kY.lt
    rw [hbx] at lkYkZ
    have m0' := ka'.cell (i := 0) rfl
    have m1' := ka'.cell (i := 1) rfl
    have m2' := ka'.cell (i := 2) rfl
    have t0' := kp'.cell (i := 0) rfl
    have t1' := kp'.cell (i := 1) rfl
    have t2' := kp'.cell (i := 2) rfl
    have t3' := kp'.cell (i := 3) rfl
    have t4' := kp'.cell (i := 4) rfl
    have xA0' := kA'.cell (i := 0) rfl
    have xA1' := kA'.cell (i := 1) rfl
    have xA2' := kA'.cell (i := 2) rfl
    have fxA0' := kA'.frozen 0
    have fxA1' := kA'.frozen 1
    have fxA2' := kA'.frozen 2
    have xB0' := kB'.cell (i := 0) rfl
    have xB1' := kB'.cell (i := 1) rfl
    have xB2' := kB'.cell (i := 2) rfl
    have fxB0' := kB'.frozen 0
    have fxB1' := kB'.frozen 1
    have fxB2' := kB'.frozen 2
    have xY0' := kY'.cell (i := 0) rfl
    have xY1' := kY'.cell (i := 1) rfl
    have xY2' := kY'.cell (i := 2) rfl
    have fxY0' := kY'.frozen 0
    have fxY1' := kY'.frozen 1
    have fxY2' := kY'.frozen 2
    have xZ0 := kZ.cell (i := 0) rfl
    have xZ1 := kZ.cell (i := 1) rfl
    have xZ2 := kZ.cell (i := 2) rfl
    have fxZ0 := kZ.frozen 0
    have fxZ1 := kZ.frozen 1
    have fxZ2 := kZ.frozen 2
    go_wp2_with fail
    clear hW
    clear hbx
    clear m0 m1 m2 t0 t1 t2 t3 t4 xA0 xA1 xA2 fxA0 fxA1 fxA2 xB0 xB1 xB2 fxB0 fxB1 fxB2 xY0 xY1 xY2 fxY0 fxY1 fxY2
    clear m0' m1' m2' t0' t1' t2' t3' t4' xA0' xA1' xA2' fxA0' fxA1' fxA2' xB0' xB1' xB2' fxB0' fxB1' fxB2' xY0' xY1' xY2' fxY0' fxY1' fxY2'
    replace ka := ka'
    clear ka'
    replace kp := kp'
    clear kp'
    replace kA := kA'
    clear kA'
    replace kB := kB'
    clear kB'
    replace kY := kY'
    clear kY'
    have m0 := ka.cell (i := 0) rfl
    have m1 := ka.cell (i := 1) rfl
    have m2 := ka.cell (i := 2) rfl
    have t0 := kp.cell (i := 0) rfl
    have t1 := kp.cell (i := 1) rfl
    have t2 := kp.cell (i := 2) rfl
    have t3 := kp.cell (i := 3) rfl
    have t4 := kp.cell (i := 4) rfl
    have xA0 := kA.cell (i := 0) rfl
    have xA1 := kA.cell (i := 1) rfl
    have xA2 := kA.cell (i := 2) rfl
    have fxA0 := kA.frozen 0
    have fxA1 := kA.frozen 1
    have fxA2 := kA.frozen 2
    have xB0 := kB.cell (i := 0) rfl
    have xB1 := kB.cell (i := 1) rfl
    have xB2 := kB.cell (i := 2) rfl
    have fxB0 := kB.frozen 0
    have fxB1 := kB.frozen 1
    have fxB2 := kB.frozen 2
    have xY0 := kY.cell (i := 0) rfl
    have xY1 := kY.cell (i := 1) rfl
    have xY2 := kY.cell (i := 2) rfl
    have fxY0 := kY.frozen 0
    have fxY1 := kY.frozen 1
    have fxY2 := kY.frozen 2
    replace rY1 := row_below rY1 hb
    replace rZ1 := row_below rZ1 hb
    replace hB := hB.trans (hb.mono hB.size)
    clear hb
    clear rY1
    have hcall := Flip_any ph pw srZ1a srZ1c n Z1 hlZ1 _ (by omega) (row_rd' hlZ1.out rZ1)
    rw [hSW1.out] at hcall
    refine hcall.mono ?_
    clear hcall
    rintro e V27 ⟨⟨v, hev, sl, hvl, hrow⟩, hb⟩
    have rW1 : V27.ownsRow w.heap.size 3 1 sl n ((W1).map (Value.int .i64)) := row_base (row_len (k := (W1).length) hlW1.out hrow) hB.size
    obtain ⟨srW1a, srW1c, rfl⟩ := row_slice rW1
    have he : e = .returned (.tuple #[.agg #[.int .i64 ph, .int .i64 pw, .slice srW1a n srW1c], .int .i64 0]) := by rw [hev, hvl]
    subst he
    clear hrow hev hvl
    clear m0 m1 m2 t0 t1 t2 t3 t4 xA0 xA1 xA2 fxA0 fxA1 fxA2 xB0 xB1 xB2 fxB0 fxB1 fxB2 xY0 xY1 xY2 fxY0 fxY1 fxY2 xZ0 xZ1 xZ2 fxZ0 fxZ1 fxZ2
    replace ka := ka.below hb ka.lt
    replace kp := kp.below hb kp.lt
    replace kA := kA.below hb kA.lt
    replace kB := kB.below hb kB.lt
    replace kY := kY.below hb kY.lt
    replace kZ := kZ.below hb kZ.lt
    replace rZ1 := row_below rZ1 hb
    replace hB := hB.trans (hb.mono hB.size)
    have m0 := ka.cell (i := 0) rfl
    have m1 := ka.cell (i := 1) rfl
    have m2 := ka.cell (i := 2) rfl
    have t0 := kp.cell (i := 0) rfl
    have t1 := kp.cell (i := 1) rfl
    have t2 := kp.cell (i := 2) rfl
    have t3 := kp.cell (i := 3) rfl
    have t4 := kp.cell (i := 4) rfl
    have xA0 := kA.cell (i := 0) rfl
    have xA1 := kA.cell (i := 1) rfl
    have xA2 := kA.cell (i := 2) rfl
    have fxA0 := kA.frozen 0
    have fxA1 := kA.frozen 1
    have fxA2 := kA.frozen 2
    have xB0 := kB.cell (i := 0) rfl
    have xB1 := kB.cell (i := 1) rfl
    have xB2 := kB.cell (i := 2) rfl
    have fxB0 := kB.frozen 0
    have fxB1 := kB.frozen 1
    have fxB2 := kB.frozen 2
    have xY0 := kY.cell (i := 0) rfl
    have xY1 := kY.cell (i := 1) rfl
    have xY2 := kY.cell (i := 2) rfl
    have fxY0 := kY.frozen 0
    have fxY1 := kY.frozen 1
    have fxY2 := kY.frozen 2
    have xZ0 := kZ.cell (i := 0) rfl
    have xZ1 := kZ.cell (i := 1) rfl
    have xZ2 := kZ.cell (i := 2) rfl
    have fxZ0 := kZ.frozen 0
    have fxZ1 := kZ.frozen 1
    have fxZ2 := kZ.frozen 2
    clear hb
    obtain ⟨V28, hW⟩ : ∃ V28, put3 V27 bkY (.int .i64 ph) (.int .i64 pw) (.slice srW1a n srW1c) = V28 := ⟨_, rfl⟩
    have hg : V27.grownBy V28 (some bkY) := hW ▸ put3_grown _ _ _ _ _
    have kY' := put3_blk kY (.int .i64 ph) (.int .i64 pw) (.slice srW1a n srW1c)
    rw [hW] at kY'
    have rZ1' := put3_row rZ1 (kY.not_row (by decide) rZ1) (.int .i64 ph) (.int .i64 pw) (.slice srW1a n srW1c)
    rw [hW] at rZ1'
    have rW1' := put3_row rW1 (kY.not_row (by decide) rW1) (.int .i64 ph) (.int .i64 pw) (.slice srW1a n srW1c)
    rw [hW] at rW1'
    have ka' := ka.kept hg (by simp <;> omega)
    have kp' := kp.kept hg (by simp <;> omega)
    have kA' := kA.kept hg (by simp <;> omega)
    have kB' := kB.kept hg (by simp <;> omega)
    have kZ' := kZ.kept hg (by simp <;> omega)
    have m0' := ka'.cell (i := 0) rfl
    have m1' := ka'.cell (i := 1) rfl
    have m2' := ka'.cell (i := 2) rfl
    have t0' := kp'.cell (i := 0) rfl
    have t1' := kp'.cell (i := 1) rfl
    have t2' := kp'.cell (i := 2) rfl
    have t3' := kp'.cell (i := 3) rfl
    have t4' := kp'.cell (i := 4) rfl
    have xA0' := kA'.cell (i := 0) rfl
    have xA1' := kA'.cell (i := 1) rfl
    have xA2' := kA'.cell (i := 2) rfl
    have fxA0' := kA'.frozen 0
    have fxA1' := kA'.frozen 1
    have fxA2' := kA'.frozen 2
    have xB0' := kB'.cell (i := 0) rfl
    have xB1' := kB'.cell (i := 1) rfl
    have xB2' := kB'.cell (i := 2) rfl
    have fxB0' := kB'.frozen 0
    have fxB1' := kB'.frozen 1
    have fxB2' := kB'.frozen 2
    have xY0' := kY'.cell (i := 0) rfl
    have xY1' := kY'.cell (i := 1) rfl
    have xY2' := kY'.cell (i := 2) rfl
    have fxY0' := kY'.frozen 0
    have fxY1' := kY'.frozen 1
    have fxY2' := kY'.frozen 2
    have xZ0' := kZ'.cell (i := 0) rfl
    have xZ1' := kZ'.cell (i := 1) rfl
    have xZ2' := kZ'.cell (i := 2) rfl
    have fxZ0' := kZ'.frozen 0
    have fxZ1' := kZ'.frozen 1
    have fxZ2' := kZ'.frozen 2
    go_wp2_with fail
    clear hW
    clear m0 m1 m2 t0 t1 t2 t3 t4 xA0 xA1 xA2 fxA0 fxA1 fxA2 xB0 xB1 xB2 fxB0 fxB1 fxB2 xY0 xY1 xY2 fxY0 fxY1 fxY2 xZ0 xZ1 xZ2 fxZ0 fxZ1 fxZ2
    clear m0' m1' m2' t0' t1' t2' t3' t4' xA0' xA1' xA2' fxA0' fxA1' fxA2' xB0' xB1' xB2' fxB0' fxB1' fxB2' xY0' xY1' xY2' fxY0' fxY1' fxY2' xZ0' xZ1' xZ2' fxZ0' fxZ1' fxZ2'
    replace ka := ka'
    clear ka'
    replace kp := kp'
    clear kp'
    replace kA := kA'
    clear kA'
    replace kB := kB'
    clear kB'
    replace kY := kY'
    clear kY'
    replace kZ := kZ'
    clear kZ'
    have m0 := ka.cell (i := 0) rfl
    have m1 := ka.cell (i := 1) rfl
    have m2 := ka.cell (i := 2) rfl
    have t0 := kp.cell (i := 0) rfl
    have t1 := kp.cell (i := 1) rfl
    have t2 := kp.cell (i := 2) rfl
    have t3 := kp.cell (i := 3) rfl
    have t4 := kp.cell (i := 4) rfl
    have xA0 := kA.cell (i := 0) rfl
    have xA1 := kA.cell (i := 1) rfl
    have xA2 := kA.cell (i := 2) rfl
    have fxA0 := kA.frozen 0
    have fxA1 := kA.frozen 1
    have fxA2 := kA.frozen 2
    have xB0 := kB.cell (i := 0) rfl
    have xB1 := kB.cell (i := 1) rfl
    have xB2 := kB.cell (i := 2) rfl
    have fxB0 := kB.frozen 0
    have fxB1 := kB.frozen 1
    have fxB2 := kB.frozen 2
    have xY0 := kY.cell (i := 0) rfl
    have xY1 := kY.cell (i := 1) rfl
    have xY2 := kY.cell (i := 2) rfl
    have fxY0 := kY.frozen 0
    have fxY1 := kY.frozen 1
    have fxY2 := kY.frozen 2
    have xZ0 := kZ.cell (i := 0) rfl
    have xZ1 := kZ.cell (i := 1) rfl
    have xZ2 := kZ.cell (i := 2) rfl
    have fxZ0 := kZ.frozen 0
    have fxZ1 := kZ.frozen 1
    have fxZ2 := kZ.frozen 2
    replace rZ1 := rZ1'
    clear rZ1'
    replace rW1 := rW1'
    clear rW1'
    replace hB := hB.trans (below_of_grown hg hB.size (by intro k e; cases e; omega))
    clear hg
    clear rZ1
    clear kZ xZ0 xZ1 xZ2 fxZ0 fxZ1 fxZ2
    have hcall := Turn_any pw ph a c n xs hn _ (by omega) ((hr.below (Nat.le_refl _) hB).mono hB.size)
    rw [hST1.out] at hcall
    refine hcall.mono ?_
    clear hcall
    rintro e V29 ⟨⟨v, hev, sl, hvl, hrow⟩, hb⟩
    have rTA : V29.ownsRow w.heap.size 3 1 sl n ((T1).map (Value.int .i64)) := row_base (row_len (k := (T1).length) hlT1.out hrow) hB.size
    obtain ⟨srTAa, srTAc, rfl⟩ := row_slice rTA
    have he : e = .returned (.tuple #[.agg #[.int .i64 ph, .int .i64 pw, .slice srTAa n srTAc], .int .i64 0]) := by rw [hev, hvl]
    subst he
    clear hrow hev hvl
    clear m0 m1 m2 t0 t1 t2 t3 t4 xA0 xA1 xA2 fxA0 fxA1 fxA2 xB0 xB1 xB2 fxB0 fxB1 fxB2 xY0 xY1 xY2 fxY0 fxY1 fxY2
    replace ka := ka.below hb ka.lt
    replace kp := kp.below hb kp.lt
    replace kA := kA.below hb kA.lt
    replace kB := kB.below hb kB.lt
    replace kY := kY.below hb kY.lt
    replace rW1 := row_below rW1 hb
    replace hB := hB.trans (hb.mono hB.size)
    have m0 := ka.cell (i := 0) rfl
    have m1 := ka.cell (i := 1) rfl
    have m2 := ka.cell (i := 2) rfl
    have t0 := kp.cell (i := 0) rfl
    have t1 := kp.cell (i := 1) rfl
    have t2 := kp.cell (i := 2) rfl
    have t3 := kp.cell (i := 3) rfl
    have t4 := kp.cell (i := 4) rfl
    have xA0 := kA.cell (i := 0) rfl
    have xA1 := kA.cell (i := 1) rfl
    have xA2 := kA.cell (i := 2) rfl
    have fxA0 := kA.frozen 0
    have fxA1 := kA.frozen 1
    have fxA2 := kA.frozen 2
    have xB0 := kB.cell (i := 0) rfl
    have xB1 := kB.cell (i := 1) rfl
    have xB2 := kB.cell (i := 2) rfl
    have fxB0 := kB.frozen 0
    have fxB1 := kB.frozen 1
    have fxB2 := kB.frozen 2
    have xY0 := kY.cell (i := 0) rfl
    have xY1 := kY.cell (i := 1) rfl
    have xY2 := kY.cell (i := 2) rfl
    have fxY0 := kY.frozen 0
    have fxY1 := kY.frozen 1
    have fxY2 := kY.frozen 2
    clear hb
    obtain ⟨V30, hW⟩ : ∃ V30, put3 V29 bkA (.int .i64 ph) (.int .i64 pw) (.slice srTAa n srTAc) = V30 := ⟨_, rfl⟩
    have hg : V29.grownBy V30 (some bkA) := hW ▸ put3_grown _ _ _ _ _
    have kA' := put3_blk kA (.int .i64 ph) (.int .i64 pw) (.slice srTAa n srTAc)
    rw [hW] at kA'
    have rW1' := put3_row rW1 (kA.not_row (by decide) rW1) (.int .i64 ph) (.int .i64 pw) (.slice srTAa n srTAc)
    rw [hW] at rW1'
    have rTA' := put3_row rTA (kA.not_row (by decide) rTA) (.int .i64 ph) (.int .i64 pw) (.slice srTAa n srTAc)
    rw [hW] at rTA'
    have ka' := ka.kept hg (by simp <;> omega)
    have kp' := kp.kept hg (by simp <;> omega)
    have kB' := kB.kept hg (by simp <;> omega)
    have kY' := kY.kept hg (by simp <;> omega)
    have m0' := ka'.cell (i := 0) rfl
    have m1' := ka'.cell (i := 1) rfl
    have m2' := ka'.cell (i := 2) rfl
    have t0' := kp'.cell (i := 0) rfl
    have t1' := kp'.cell (i := 1) rfl
    have t2' := kp'.cell (i := 2) rfl
    have t3' := kp'.cell (i := 3) rfl
    have t4' := kp'.cell (i := 4) rfl
    have xA0' := kA'.cell (i := 0) rfl
    have xA1' := kA'.cell (i := 1) rfl
    have xA2' := kA'.cell (i := 2) rfl
    have fxA0' := kA'.frozen 0
    have fxA1' := kA'.frozen 1
    have fxA2' := kA'.frozen 2
    have xB0' := kB'.cell (i := 0) rfl
    have xB1' := kB'.cell (i := 1) rfl
    have xB2' := kB'.cell (i := 2) rfl
    have fxB0' := kB'.frozen 0
    have fxB1' := kB'.frozen 1
    have fxB2' := kB'.frozen 2
    have xY0' := kY'.cell (i := 0) rfl
    have xY1' := kY'.cell (i := 1) rfl
    have xY2' := kY'.cell (i := 2) rfl
    have fxY0' := kY'.frozen 0
    have fxY1' := kY'.frozen 1
    have fxY2' := kY'.frozen 2
    go_wp2_with fail
    clear hW
    clear m0 m1 m2 t0 t1 t2 t3 t4 xA0 xA1 xA2 fxA0 fxA1 fxA2 xB0 xB1 xB2 fxB0 fxB1 fxB2 xY0 xY1 xY2 fxY0 fxY1 fxY2
    clear m0' m1' m2' t0' t1' t2' t3' t4' xA0' xA1' xA2' fxA0' fxA1' fxA2' xB0' xB1' xB2' fxB0' fxB1' fxB2' xY0' xY1' xY2' fxY0' fxY1' fxY2'
    replace ka := ka'
    clear ka'
    replace kp := kp'
    clear kp'
    replace kA := kA'
    clear kA'
    replace kB := kB'
    clear kB'
    replace kY := kY'
    clear kY'
    have m0 := ka.cell (i := 0) rfl
    have m1 := ka.cell (i := 1) rfl
    have m2 := ka.cell (i := 2) rfl
    have t0 := kp.cell (i := 0) rfl
    have t1 := kp.cell (i := 1) rfl
    have t2 := kp.cell (i := 2) rfl
    have t3 := kp.cell (i := 3) rfl
    have t4 := kp.cell (i := 4) rfl
    have xA0 := kA.cell (i := 0) rfl
    have xA1 := kA.cell (i := 1) rfl
    have xA2 := kA.cell (i := 2) rfl
    have fxA0 := kA.frozen 0
    have fxA1 := kA.frozen 1
    have fxA2 := kA.frozen 2
    have xB0 := kB.cell (i := 0) rfl
    have xB1 := kB.cell (i := 1) rfl
    have xB2 := kB.cell (i := 2) rfl
    have fxB0 := kB.frozen 0
    have fxB1 := kB.frozen 1
    have fxB2 := kB.frozen 2
    have xY0 := kY.cell (i := 0) rfl
    have xY1 := kY.cell (i := 1) rfl
    have xY2 := kY.cell (i := 2) rfl
    have fxY0 := kY.frozen 0
    have fxY1 := kY.frozen 1
    have fxY2 := kY.frozen 2
    replace rW1 := rW1'
    clear rW1'
    replace rTA := rTA'
    clear rTA'
    replace hB := hB.trans (below_of_grown hg hB.size (by intro k e; cases e; omega))
    clear hg
    have hcall := Flip_any ph pw srTAa srTAc n T1 hlT1 _ (by omega) (row_rd' hlT1.out rTA)
    rw [hSB1.out] at hcall
    refine hcall.mono ?_
    clear hcall
    rintro e V31 ⟨⟨v, hev, sl, hvl, hrow⟩, hb⟩
    have rB1 : V31.ownsRow w.heap.size 3 1 sl n ((B1).map (Value.int .i64)) := row_base (row_len (k := (B1).length) hlB1.out hrow) hB.size
    obtain ⟨srB1a, srB1c, rfl⟩ := row_slice rB1
    have he : e = .returned (.tuple #[.agg #[.int .i64 ph, .int .i64 pw, .slice srB1a n srB1c], .int .i64 0]) := by rw [hev, hvl]
    subst he
    clear hrow hev hvl
    clear m0 m1 m2 t0 t1 t2 t3 t4 xA0 xA1 xA2 fxA0 fxA1 fxA2 xB0 xB1 xB2 fxB0 fxB1 fxB2 xY0 xY1 xY2 fxY0 fxY1 fxY2
    replace ka := ka.below hb ka.lt
    replace kp := kp.below hb kp.lt
    replace kA := kA.below hb kA.lt
    replace kB := kB.below hb kB.lt
    replace kY := kY.below hb kY.lt
    replace rW1 := row_below rW1 hb
    replace rTA := row_below rTA hb
    replace hB := hB.trans (hb.mono hB.size)
    have m0 := ka.cell (i := 0) rfl
    have m1 := ka.cell (i := 1) rfl
    have m2 := ka.cell (i := 2) rfl
    have t0 := kp.cell (i := 0) rfl
    have t1 := kp.cell (i := 1) rfl
    have t2 := kp.cell (i := 2) rfl
    have t3 := kp.cell (i := 3) rfl
    have t4 := kp.cell (i := 4) rfl
    have xA0 := kA.cell (i := 0) rfl
    have xA1 := kA.cell (i := 1) rfl
    have xA2 := kA.cell (i := 2) rfl
    have fxA0 := kA.frozen 0
    have fxA1 := kA.frozen 1
    have fxA2 := kA.frozen 2
    have xB0 := kB.cell (i := 0) rfl
    have xB1 := kB.cell (i := 1) rfl
    have xB2 := kB.cell (i := 2) rfl
    have fxB0 := kB.frozen 0
    have fxB1 := kB.frozen 1
    have fxB2 := kB.frozen 2
    have xY0 := kY.cell (i := 0) rfl
    have xY1 := kY.cell (i := 1) rfl
    have xY2 := kY.cell (i := 2) rfl
    have fxY0 := kY.frozen 0
    have fxY1 := kY.frozen 1
    have fxY2 := kY.frozen 2
    clear hb
    obtain ⟨V32, hW⟩ : ∃ V32, put3 V31 bkB (.int .i64 ph) (.int .i64 pw) (.slice srB1a n srB1c) = V32 := ⟨_, rfl⟩
    have hg : V31.grownBy V32 (some bkB) := hW ▸ put3_grown _ _ _ _ _
    have kB' := put3_blk kB (.int .i64 ph) (.int .i64 pw) (.slice srB1a n srB1c)
    rw [hW] at kB'
    have rW1' := put3_row rW1 (kB.not_row (by decide) rW1) (.int .i64 ph) (.int .i64 pw) (.slice srB1a n srB1c)
    rw [hW] at rW1'
    have rTA' := put3_row rTA (kB.not_row (by decide) rTA) (.int .i64 ph) (.int .i64 pw) (.slice srB1a n srB1c)
    rw [hW] at rTA'
    have rB1' := put3_row rB1 (kB.not_row (by decide) rB1) (.int .i64 ph) (.int .i64 pw) (.slice srB1a n srB1c)
    rw [hW] at rB1'
    have ka' := ka.kept hg (by simp <;> omega)
    have kp' := kp.kept hg (by simp <;> omega)
    have kA' := kA.kept hg (by simp <;> omega)
    have kY' := kY.kept hg (by simp <;> omega)
    have m0' := ka'.cell (i := 0) rfl
    have m1' := ka'.cell (i := 1) rfl
    have m2' := ka'.cell (i := 2) rfl
    have t0' := kp'.cell (i := 0) rfl
    have t1' := kp'.cell (i := 1) rfl
    have t2' := kp'.cell (i := 2) rfl
    have t3' := kp'.cell (i := 3) rfl
    have t4' := kp'.cell (i := 4) rfl
    have xA0' := kA'.cell (i := 0) rfl
    have xA1' := kA'.cell (i := 1) rfl
    have xA2' := kA'.cell (i := 2) rfl
    have fxA0' := kA'.frozen 0
    have fxA1' := kA'.frozen 1
    have fxA2' := kA'.frozen 2
    have xB0' := kB'.cell (i := 0) rfl
    have xB1' := kB'.cell (i := 1) rfl
    have xB2' := kB'.cell (i := 2) rfl
    have fxB0' := kB'.frozen 0
    have fxB1' := kB'.frozen 1
    have fxB2' := kB'.frozen 2
    have xY0' := kY'.cell (i := 0) rfl
    have xY1' := kY'.cell (i := 1) rfl
    have xY2' := kY'.cell (i := 2) rfl
    have fxY0' := kY'.frozen 0
    have fxY1' := kY'.frozen 1
    have fxY2' := kY'.frozen 2
    go_wp2_with fail
    clear hW
    clear m0 m1 m2 t0 t1 t2 t3 t4 xA0 xA1 xA2 fxA0 fxA1 fxA2 xB0 xB1 xB2 fxB0 fxB1 fxB2 xY0 xY1 xY2 fxY0 fxY1 fxY2
    clear m0' m1' m2' t0' t1' t2' t3' t4' xA0' xA1' xA2' fxA0' fxA1' fxA2' xB0' xB1' xB2' fxB0' fxB1' fxB2' xY0' xY1' xY2' fxY0' fxY1' fxY2'
    replace ka := ka'
    clear ka'
    replace kp := kp'
    clear kp'
    replace kA := kA'
    clear kA'
    replace kB := kB'
    clear kB'
    replace kY := kY'
    clear kY'
    have m0 := ka.cell (i := 0) rfl
    have m1 := ka.cell (i := 1) rfl
    have m2 := ka.cell (i := 2) rfl
    have t0 := kp.cell (i := 0) rfl
    have t1 := kp.cell (i := 1) rfl
    have t2 := kp.cell (i := 2) rfl
    have t3 := kp.cell (i := 3) rfl
    have t4 := kp.cell (i := 4) rfl
    have xA0 := kA.cell (i := 0) rfl
    have xA1 := kA.cell (i := 1) rfl
    have xA2 := kA.cell (i := 2) rfl
    have fxA0 := kA.frozen 0
    have fxA1 := kA.frozen 1
    have fxA2 := kA.frozen 2
    have xB0 := kB.cell (i := 0) rfl
    have xB1 := kB.cell (i := 1) rfl
    have xB2 := kB.cell (i := 2) rfl
    have fxB0 := kB.frozen 0
    have fxB1 := kB.frozen 1
    have fxB2 := kB.frozen 2
    have xY0 := kY.cell (i := 0) rfl
    have xY1 := kY.cell (i := 1) rfl
    have xY2 := kY.cell (i := 2) rfl
    have fxY0 := kY.frozen 0
    have fxY1 := kY.frozen 1
    have fxY2 := kY.frozen 2
    replace rW1 := rW1'
    clear rW1'
    replace rTA := rTA'
    clear rTA'
    replace rB1 := rB1'
    clear rB1'
    replace hB := hB.trans (below_of_grown hg hB.size (by intro k e; cases e; omega))
    clear hg
    clear rTA
    clear kA xA0 xA1 xA2 fxA0 fxA1 fxA2
    have hcall := Point_any ph pw srB1a srB1c n B1 hlB1 p _ (by omega) (row_rd' hlB1.out rB1)
    rw [hSW2.out] at hcall
    refine hcall.mono ?_
    clear hcall
    rintro e V33 ⟨⟨v, hev, sl, hvl, hrow⟩, hb⟩
    have rW2 : V33.ownsRow w.heap.size 3 1 sl n ((W1).map (Value.int .i64)) := row_base (row_len (k := (W1).length) hlW1.out hrow) hB.size
    obtain ⟨srW2a, srW2c, rfl⟩ := row_slice rW2
    have he : e = .returned (.tuple #[.agg #[.int .i64 ph, .int .i64 pw, .slice srW2a n srW2c], .int .i64 0]) := by rw [hev, hvl]
    subst he
    clear hrow hev hvl
    clear m0 m1 m2 t0 t1 t2 t3 t4 xB0 xB1 xB2 fxB0 fxB1 fxB2 xY0 xY1 xY2 fxY0 fxY1 fxY2
    replace ka := ka.below hb ka.lt
    replace kp := kp.below hb kp.lt
    replace kB := kB.below hb kB.lt
    replace kY := kY.below hb kY.lt
    replace rW1 := row_below rW1 hb
    replace rB1 := row_below rB1 hb
    replace hB := hB.trans (hb.mono hB.size)
    have m0 := ka.cell (i := 0) rfl
    have m1 := ka.cell (i := 1) rfl
    have m2 := ka.cell (i := 2) rfl
    have t0 := kp.cell (i := 0) rfl
    have t1 := kp.cell (i := 1) rfl
    have t2 := kp.cell (i := 2) rfl
    have t3 := kp.cell (i := 3) rfl
    have t4 := kp.cell (i := 4) rfl
    have xB0 := kB.cell (i := 0) rfl
    have xB1 := kB.cell (i := 1) rfl
    have xB2 := kB.cell (i := 2) rfl
    have fxB0 := kB.frozen 0
    have fxB1 := kB.frozen 1
    have fxB2 := kB.frozen 2
    have xY0 := kY.cell (i := 0) rfl
    have xY1 := kY.cell (i := 1) rfl
    have xY2 := kY.cell (i := 2) rfl
    have fxY0 := kY.frozen 0
    have fxY1 := kY.frozen 1
    have fxY2 := kY.frozen 2
    clear hb
    obtain ⟨V34, hW⟩ : ∃ V34, V33.alloc (.cells #[.int .i64 ph, .int .i64 pw, .slice srW2a n srW2c] 24) = V34 := ⟨_, rfl⟩
    obtain ⟨bkV, hbx⟩ : ∃ bkV, V33.heap.size = bkV := ⟨_, rfl⟩
    have kV := Blk.new V33 24 #[.int .i64 ph, .int .i64 pw, .slice srW2a n srW2c]
    rw [hW, hbx] at kV
    have hb : Below V33.heap.size V33 V34 := alloc_below hW
    have ka' := ka.below hb ka.lt
    have lkakV := ka.lt
    rw [hbx] at lkakV
    have kp' := kp.below hb kp.lt
    have lkpkV := kp.lt
    rw [hbx] at lkpkV
    have kB' := kB.below hb kB.lt
    have lkBkV := kB.lt
    rw [hbx] at lkBkV
    have kY' := kY.below hb kY.lt
    have lkYkV := kY.lt
    rw [hbx] at lkYkV
    have m0' := ka'.cell (i := 0) rfl
    have m1' := ka'.cell (i := 1) rfl
    have m2' := ka'.cell (i := 2) rfl
    have t0' := kp'.cell (i := 0) rfl
    have t1' := kp'.cell (i := 1) rfl
    have t2' := kp'.cell (i := 2) rfl
    have t3' := kp'.cell (i := 3) rfl
    have t4' := kp'.cell (i := 4) rfl
    have xB0' := kB'.cell (i := 0) rfl
    have xB1' := kB'.cell (i := 1) rfl
    have xB2' := kB'.cell (i := 2) rfl
    have fxB0' := kB'.frozen 0
    have fxB1' := kB'.frozen 1
    have fxB2' := kB'.frozen 2
    have xY0' := kY'.cell (i := 0) rfl
    have xY1' := kY'.cell (i := 1) rfl
    have xY2' := kY'.cell (i := 2) rfl
    have fxY0' := kY'.frozen 0
    have fxY1' := kY'.frozen 1
    have fxY2' := kY'.frozen 2
    have xV0 := kV.cell (i := 0) rfl
    have xV1 := kV.cell (i := 1) rfl
    have xV2 := kV.cell (i := 2) rfl
    have fxV0 := kV.frozen 0
    have fxV1 := kV.frozen 1
    have fxV2 := kV.frozen 2
    go_wp2_with fail
    clear hW
    clear hbx
    clear m0 m1 m2 t0 t1 t2 t3 t4 xB0 xB1 xB2 fxB0 fxB1 fxB2 xY0 xY1 xY2 fxY0 fxY1 fxY2
    clear m0' m1' m2' t0' t1' t2' t3' t4' xB0' xB1' xB2' fxB0' fxB1' fxB2' xY0' xY1' xY2' fxY0' fxY1' fxY2'
    replace ka := ka'
    clear ka'
    replace kp := kp'
    clear kp'
    replace kB := kB'
    clear kB'
    replace kY := kY'
    clear kY'
    have m0 := ka.cell (i := 0) rfl
    have m1 := ka.cell (i := 1) rfl
    have m2 := ka.cell (i := 2) rfl
    have t0 := kp.cell (i := 0) rfl
    have t1 := kp.cell (i := 1) rfl
    have t2 := kp.cell (i := 2) rfl
    have t3 := kp.cell (i := 3) rfl
    have t4 := kp.cell (i := 4) rfl
    have xB0 := kB.cell (i := 0) rfl
    have xB1 := kB.cell (i := 1) rfl
    have xB2 := kB.cell (i := 2) rfl
    have fxB0 := kB.frozen 0
    have fxB1 := kB.frozen 1
    have fxB2 := kB.frozen 2
    have xY0 := kY.cell (i := 0) rfl
    have xY1 := kY.cell (i := 1) rfl
    have xY2 := kY.cell (i := 2) rfl
    have fxY0 := kY.frozen 0
    have fxY1 := kY.frozen 1
    have fxY2 := kY.frozen 2
    replace rW1 := row_below rW1 hb
    replace rB1 := row_below rB1 hb
    replace rW2 := row_below rW2 hb
    replace hB := hB.trans (hb.mono hB.size)
    clear hb
    clear rB1
    clear kB xB0 xB1 xB2 fxB0 fxB1 fxB2
    refine (Same_eq ph pw srW1a srW2a srW1c srW2c n W1 hlW1 _ (by omega) (row_rd' hlW1.out rW1) (row_rd' hlW1.out rW2)).mono ?_
    rintro e V35 ⟨rfl, hb⟩
    clear m0 m1 m2 t0 t1 t2 t3 t4 xY0 xY1 xY2 fxY0 fxY1 fxY2 xV0 xV1 xV2 fxV0 fxV1 fxV2
    replace ka := ka.below hb ka.lt
    replace kp := kp.below hb kp.lt
    replace kY := kY.below hb kY.lt
    replace kV := kV.below hb kV.lt
    replace rW1 := row_below rW1 hb
    replace rW2 := row_below rW2 hb
    replace hB := hB.trans (hb.mono hB.size)
    have m0 := ka.cell (i := 0) rfl
    have m1 := ka.cell (i := 1) rfl
    have m2 := ka.cell (i := 2) rfl
    have t0 := kp.cell (i := 0) rfl
    have t1 := kp.cell (i := 1) rfl
    have t2 := kp.cell (i := 2) rfl
    have t3 := kp.cell (i := 3) rfl
    have t4 := kp.cell (i := 4) rfl
    have xY0 := kY.cell (i := 0) rfl
    have xY1 := kY.cell (i := 1) rfl
    have xY2 := kY.cell (i := 2) rfl
    have fxY0 := kY.frozen 0
    have fxY1 := kY.frozen 1
    have fxY2 := kY.frozen 2
    have xV0 := kV.cell (i := 0) rfl
    have xV1 := kV.cell (i := 1) rfl
    have xV2 := kV.cell (i := 2) rfl
    have fxV0 := kV.frozen 0
    have fxV1 := kV.frozen 1
    have fxV2 := kV.frozen 2
    clear hb
    go_wp2_with fail
    go_ret
    exact ⟨rfl, hB⟩

end Go.Proofs.Ytjglfeonoiljlaa
